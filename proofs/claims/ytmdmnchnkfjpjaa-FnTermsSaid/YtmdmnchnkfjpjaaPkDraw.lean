/-
  Drawn types and terms: rows that grow, copies, boxes of terms being made, and the walks of the draws of types and terms.
-/
import Derived.Test.YtmdmnchnkfjpjaaTo
import Derived.Test.YtmdmnchnkfjpjaaPlain
import Derived.Deep.AppendLies
import Derived.Deep.RegionLaw
import Derived.Test.YtmdmnchnkfjpjaaWrote
import Derived.Deep.RegionWith
import Derived.Deep.RegionHeld3
import Derived.Test.YtmdmnchnkfjpjaaDraw
import Derived.Test.YtmdmnchnkfjpjaaTmTo
import Derived.Test.YtmdmnchnkfjpjaaArM
import Derived.Deep.DeepCutAuto
import Derived.Deep.CutBlock
namespace Go.Proofs.Ytmdmnchnkfjpjaa
open Go.RowKit
set_option linter.unusedVariables false

/-- The cells of a row read as types, two cells each. -/
def RC (w : World) : List Ty → List Value → List Nat → Prop
  | [], cs, fp => cs = [] ∧ fp = []
  | t :: ts, cs, fp => ∃ c0 c1 rest f g, cs = c0 :: c1 :: rest ∧ fp = f ++ g ∧ RT w t c0 c1 f ∧ RC w ts rest g
theorem RC_keep {w w' : World} : ∀ {ts : List Ty} {cs : List Value} {fp : List Nat}, RC w ts cs fp → (∀ b ∈ fp, SameB w w' b) → RC w' ts cs fp
  | [], _, _, h, _ => h
  | t :: ts, _, _, h, hs => by
    obtain ⟨c0, c1, rest, f, g, rfl, rfl, h1, h2⟩ := h
    exact ⟨c0, c1, rest, f, g, rfl, rfl, RT.keep _ _ _ _ h1 fun b hb => hs b (by simp [hb]), RC_keep h2 fun b hb => hs b (by simp [hb])⟩
theorem RC_lt {w : World} : ∀ {ts : List Ty} {cs : List Value} {fp : List Nat}, RC w ts cs fp → ∀ b ∈ fp, b < w.heap.size
  | [], _, _, h, b, hb => by
    obtain ⟨_, rfl⟩ := h
    cases hb
  | t :: ts, _, _, h, b, hb => by
    obtain ⟨c0, c1, rest, f, g, rfl, rfl, h1, h2⟩ := h
    rcases List.mem_append.1 hb with hb | hb
    · exact RT.lt _ _ _ _ h1 b hb
    · exact RC_lt h2 b hb
theorem RC_below {w w' : World} {ts : List Ty} {cs : List Value} {fp : List Nat} (h : RC w ts cs fp) (hb : Below w.heap.size w w') : RC w' ts cs fp :=
  RC_keep h fun b hbf => SameB.of_heap (hb.block b (RC_lt h b hbf))
theorem RC_snoc {w : World} {t : Ty} {c0 c1 : Value} {f : List Nat} : ∀ {ts : List Ty} {cs : List Value} {fp : List Nat}, RC w ts cs fp → RT w t c0 c1 f → RC w (ts ++ [t]) (cs ++ [c0, c1]) (fp ++ f)
  | [], _, _, h, ht => by
    obtain ⟨rfl, rfl⟩ := h
    exact ⟨c0, c1, [], f, [], rfl, by simp, ht, rfl, rfl⟩
  | x :: xs, _, _, h, ht => by
    obtain ⟨d0, d1, rest, f1, g, rfl, rfl, h1, h2⟩ := h
    exact ⟨d0, d1, rest ++ [c0, c1], f1, g ++ f, by simp, by simp, h1, RC_snoc h2 ht⟩
theorem RC_rts {w : World} : ∀ {ts : List Ty} {cs : List Value} {fp : List Nat} {b off : Nat}, RC w ts cs fp → (∀ j u, cs[j]? = some u → w.cell? ⟨b, off + j, none⟩ = some u) → RTs w ts b off fp
  | [], _, _, _, _, h, _ => by
    obtain ⟨_, rfl⟩ := h
    rw [RTs]
  | t :: ts, _, _, b, off, h, hc => by
    obtain ⟨c0, c1, rest, f, g, rfl, rfl, h1, h2⟩ := h
    rw [RTs]
    refine ⟨c0, c1, f, g, rfl, hc 0 _ rfl, hc 1 _ rfl, h1, RC_rts h2 fun j u hu => ?_⟩
    have := hc (j + 2) u (by simpa using hu)
    rwa [show off + (j + 2) = off + 2 + j by omega] at this
theorem RC_len {w : World} : ∀ {ts : List Ty} {cs : List Value} {fp : List Nat}, RC w ts cs fp → cs.length = ts.length * 2
  | [], _, _, h => by
    obtain ⟨rfl, _⟩ := h
    rfl
  | t :: ts, _, _, h => by
    obtain ⟨c0, c1, rest, f, g, rfl, _, _, h2⟩ := h
    have := RC_len h2
    simp only [List.length_cons]
    omega

theorem own_below {w w' : World} {base T size n : Nat} {v : Value} {xs : List Value} (h : w.ownsRow base T size v n xs) (hb : Below w.heap.size w w') : w'.ownsRow base T size v n xs := by
  refine ⟨h.1, ?_⟩
  rcases h.2 with hn | ⟨g, cap, cur, rfl, hg, hh, r⟩
  · exact .inl hn
  · exact .inr ⟨g, cap, cur, rfl, hg, (hb.block g (Array.getElem?_eq_some_iff.1 hh).1).trans hh, r⟩

theorem Blk.new3 (w : World) (o o' : Obj) (t : TypeId) (cs : Array Value) : Blk (((w.alloc o).alloc o').alloc (.cells cs t)) (w.heap.size + 1 + 1) t cs := by
  have h := Blk.new ((w.alloc o).alloc o') t cs
  simpa using h
theorem Blk.grown {w w' : World} {g t : Nat} {cs : Array Value} {row : Option Nat} (h : Blk w g t cs) (hg : w.grownBy w' row) (hne : some g ≠ row) : Blk w' g t cs := (hg.block g h.lt hne).trans h

/-- What has been laid behind some rounds: a struct in block B whose second cell is a row of one's own, which reads as the types ts. -/
def Laid (B base T : Nat) (k : Int) (ts : List Ty) (w : World) : Prop :=
  ∃ v cs fp, Blk w B T #[.int .i64 k, v] ∧ w.ownsRow base T 2 v ts.length cs ∧ RC w ts cs fp ∧ fp.Nodup ∧ Own base w fp ∧ ∀ g, v.ownBlock = some g → g ∉ fp


/-- Behind an append: the struct's block is as it was. -/
theorem laid_box {B base T n : Nat} {k : Int} {wr w1 w2 : World} {v : Value} {cs : List Value} {o : Obj} (hB3 : Blk wr B T #[.int .i64 k, v]) (hown : wr.ownsRow base T 2 v n cs) (hBb : B < base)
    (b1 : Below wr.heap.size wr w1) (hgrow : (w1.alloc o).grownBy w2 v.ownBlock) : Blk w2 B T #[.int .i64 k, v] :=
  ((hB3.under b1).alloc o).grown hgrow fun e => by
    have := (hown.lt B e.symm).1
    omega

/-- One append more. -/
theorem laid_step {B base T n g : Nat} {k : Int} {ts : List Ty} {t : Ty} {wr w1 w2 : World} {v v' d0 d1 : Value} {cs : List Value} {fp f : List Nat} {o : Obj} (hn : n = ts.length)
    (hB3 : Blk wr B T #[.int .i64 k, v]) (hown : wr.ownsRow base T 2 v n cs) (hRC : RC wr ts cs fp) (hnd : fp.Nodup) (hOwn : Own base wr fp) (hap : ∀ g, v.ownBlock = some g → g ∉ fp) (hBb : B < base) (hbs : base ≤ wr.heap.size)
    (b1 : Below wr.heap.size wr w1) (hR1 : RT w1 t d0 d1 f) (hnd1 : f.Nodup) (hO1 : Own wr.heap.size w1 f)
    (hown2 : w2.ownsRow base T 2 v' (n + 1) (cs ++ [d0, d1])) (hgrow : (w1.alloc o).grownBy w2 v.ownBlock) (hv' : v'.ownBlock = some g) (hat : v.ownBlock = some g ∨ g = (w1.alloc o).heap.size) :
    Laid B base T k (ts ++ [t]) (w2.setCell ⟨B, 1, none⟩ v') := by
  have hvl := hown.lt
  have hB2 := laid_box hB3 hown hBb b1 hgrow (k := k)
  have lt1 : ∀ x ∈ fp, x < wr.heap.size := RC_lt hRC
  have lt2 : ∀ x ∈ f, x < w1.heap.size := RT.lt _ _ _ _ hR1
  have s1 := b1.size
  have blk1 : ∀ x ∈ fp, w2.heap[x]? = wr.heap[x]? := fun x hx => by
    have := lt1 x hx
    rw [hgrow.block x (by simp; omega) (fun e => hap x e.symm hx), Below.heap_alloc _ _ _ (by omega), b1.block x this]
  have blk2 : ∀ x ∈ f, w2.heap[x]? = w1.heap[x]? := fun x hx => by
    have h1 := lt2 x hx
    have h2 := hO1.1 x hx
    rw [hgrow.block x (by simp; omega) (fun e => by have := (hvl x e.symm).2; omega), Below.heap_alloc _ _ _ h1]
  have far : ∀ x, base ≤ x → SameB w2 (w2.setCell ⟨B, 1, none⟩ v') x := fun x hx => same_set (p := ⟨B, 1, none⟩) (by simp; omega) v'
  have hle : ∀ x ∈ f, base ≤ x := fun x hx => Nat.le_trans hbs (hO1.1 x hx)
  refine ⟨v', cs ++ [d0, d1], fp ++ f, ?_, ?_, ?_, nodup_join hnd hnd1 lt1 hO1.1, ⟨fun x hx => ?_, Free.append ?_ ?_⟩, fun x hx hin => ?_⟩
  · have h := hB2.set_ 1 v'
    simpa using h
  · have h := ownsRow_setCell_below hown2 (a := ⟨B, 1, none⟩) hBb v'
    simpa [hn] using h
  · refine RC_snoc (RC_keep hRC fun x hx => ?_) (RT.keep _ _ _ _ hR1 fun x hx => ?_)
    · exact (SameB.of_heap (blk1 x hx)).trans (far x (hOwn.1 x hx))
    · exact (SameB.of_heap (blk2 x hx)).trans (far x (hle x hx))
  · rcases List.mem_append.1 hx with hx | hx
    · exact hOwn.1 x hx
    · exact hle x hx
  · intro x hx o
    rw [World.frozen?_setCell, World.frozen?_of_block (a := ⟨x, o, none⟩) (blk1 x hx)]
    exact hOwn.2 x hx o
  · intro x hx o
    rw [World.frozen?_setCell, World.frozen?_of_block (a := ⟨x, o, none⟩) (blk2 x hx)]
    exact hO1.2 x hx o
  · rw [hv'] at hx
    obtain rfl : g = x := Option.some.inj hx
    rcases hat with h | h
    · rcases List.mem_append.1 hin with hin | hin
      · exact hap g h hin
      · have := (hvl g h).2
        have := hO1.1 g hin
        omega
    · simp at h
      rcases List.mem_append.1 hin with hin | hin
      · have := lt1 g hin
        omega
      · have := lt2 g hin
        omega
/-- Another block of the call's own is as it was. -/
theorem laid_keep {B base T T' n M : Nat} {wr w1 w2 : World} {v v' : Value} {cs : List Value} {cs' : Array Value} {o : Obj} (hM : Blk wr M T' cs') (hown : wr.ownsRow base T 2 v n cs) (hMb : M < base) (hMB : M ≠ B)
    (b1 : Below wr.heap.size wr w1) (hgrow : (w1.alloc o).grownBy w2 v.ownBlock) : Blk (w2.setCell ⟨B, 1, none⟩ v') M T' cs' :=
  Blk.far (((hM.under b1).alloc o).grown hgrow fun e => by
    have := (hown.lt M e.symm).1
    omega) (p := ⟨B, 1, none⟩) hMB v'

theorem laid_below {B base T n N : Nat} {w wr w1 w2 : World} {v v' : Value} {cs : List Value} {o : Obj} (hb : Below N w wr) (hown : wr.ownsRow base T 2 v n cs) (hN : N ≤ B) (hB : B < base) (hNw : N ≤ wr.heap.size)
    (b1 : Below wr.heap.size wr w1) (hgrow : (w1.alloc o).grownBy w2 v.ownBlock) : Below N w (w2.setCell ⟨B, 1, none⟩ v') := by
  have s1 := b1.size
  exact (((hb.trans (b1.mono hNw)).alloc (by omega) o).grown hgrow (by simp; omega) fun k hk => by have := (hown.lt k hk).1; omega).setCell (p := ⟨B, 1, none⟩) hN v'

/-- What has been laid, read as one type. -/
theorem laid_RT {B base T : Nat} {k : Int} {ts : List Ty} {w : World} (h : Laid B base T k ts w) (hk : i64 k) :
    ∃ a n c fp, Blk w B T #[.int .i64 k, .slice a n c] ∧ RT w ⟨k, ts⟩ (.int .i64 k) (.slice a n c) fp ∧ fp.Nodup ∧ Own base w fp := by
  obtain ⟨v, cs, fp, hB, hown, hRC, hnd, hOwn, hap⟩ := h
  rcases hown.2 with ⟨rfl, hn⟩ | ⟨g, cap, cur, rfl, hg, hh, hle, hm, hsz, htk⟩
  · have : ts = [] := List.length_eq_zero_iff.1 hn
    subst this
    exact ⟨none, 0, 0, [], hB, by rw [RT]; exact ⟨rfl, hk, none, 0, rfl, by simp, by simp, .inl ⟨rfl, rfl⟩⟩, List.nodup_nil, by simp, Free.nil _⟩
  · have hR : RTs w ts g 0 fp := RC_rts hRC fun j u hu => by
      have := hown.cells (g := g) rfl j u hu
      simpa [Addr.add_lit] using this
    obtain ⟨fp', hT, h1, h2⟩ := RT_of_RTs (cap := cap) hk hle hm hR
    have hgB : Blk w g T cur := hh
    refine ⟨some ⟨g, 0, none⟩, ts.length, cap, fp', hB, hT, ?_, ?_⟩
    · by_cases hx : ts = []
      · rw [h2 hx]; exact List.nodup_nil
      · rw [h1 hx]; exact List.nodup_cons.2 ⟨hap g rfl, hnd⟩
    · by_cases hx : ts = []
      · rw [h2 hx]; exact ⟨by simp, Free.nil _⟩
      · rw [h1 hx]
        refine ⟨fun x hx => ?_, Free.cons hgB.free hOwn.2⟩
        rcases List.mem_cons.1 hx with rfl | hx
        · exact hg
        · exact hOwn.1 x hx
end Go.Proofs.Ytmdmnchnkfjpjaa

namespace Go.Proofs.Ytmdmnchnkfjpjaa
open Go.RowKit
set_option maxRecDepth 100000
set_option linter.unusedVariables false
set_option linter.unusedSimpArgs false

set_option maxHeartbeats 1600000 in
theorem l3Copy_of (k : Int) (xs : List Ty) (ih : ∀ t ∈ xs, ∀ (c0 c1 : Value) (w : World), Rd w t c0 c1 → Ty.sizes t.args ≤ 1048576 → Calls Try.prog 38 #[.agg #[c0, c1]] w (Copied w t))
    (a : Option Addr) (n cap : Nat) (w : World) (h : Rd w ⟨k, xs⟩ (.int .i64 k) (.slice a n cap)) (hl' : Ty.sizes xs ≤ 1048576)
    (hk : i64 k) (hr : Rds w xs a n cap) :
    Calls Try.prog 38 #[.agg #[.int .i64 k, .slice a n cap]] w (Copied w ⟨k, xs⟩) := by
  have IH := hide ih
  clear ih
  have hn : n ≤ 1048576 := by
    have := Ty.length_le_sizes xs
    have h1 : n = xs.length := hr.1
    omega
  obtain ⟨i0, hi, hz0, hz1, hz2⟩ := info_parts Try.infoType
  focus
    go_enter Try.func38, Try.ntmps38
    go_wp2_with fail
    go_loopw [4] (fun i wr => ∃ j : Nat, j ≤ n ∧ i = .int .i64 j ∧ Laid (w.heap.size + 1 + 1) (w.heap.size + 1 + 1 + 1) 26 k (xs.take j) wr ∧ w.heap.size + 1 + 1 + 1 ≤ wr.heap.size ∧ Blk wr w.heap.size 26 #[.int .i64 k, .slice a n cap] ∧ Blk wr (w.heap.size + 1) 26 #[.int .i64 0, .slice none 0 0] ∧ Below w.heap.size w wr) (fun i _ => n - (intOf i).toNat)
    case atStart => exact ⟨0, by omega, rfl, ⟨.slice none 0 0, [], [], Blk.new3 _ _ _ _ _, ⟨by simp, .inl ⟨rfl, by simp⟩⟩, by simp [RC], List.nodup_nil, ⟨by simp, Free.nil _⟩, by simp [Value.ownBlock]⟩, by simp, ((Blk.new w _ _).alloc _).alloc _, (Blk.new2 w _ _ _).alloc _, (by repeat (first | exact Below.refl _ _ | assumption | refine Below.drew ?_ | refine below_drewN ?_ _ | refine Below.alloc ?_ (by first | omega | (simp; done) | (simp; omega)) _ | refine Below.setCell ?_ (by first | omega | (simp; done) | (simp; omega)) _))⟩
    case round =>
      obtain ⟨j, hj, rfl, hL, hsb, hB, hB1, hb⟩ := hrel
      have hsz := hb.size
      by_cases hjn : j < n
      · have hjx : j < xs.length := by rw [← hr.1]; exact hjn
        obtain ⟨b, off, e0, e1, rfl, hlt, q0, q1, hd⟩ := (hr.below hb).get j hjx
        obtain ⟨v, cs, fp, hB3, hown, hRC, hnd, hOwn, hap⟩ := hL
        have hlen : (xs.take j).length = j := by rw [List.length_take]; omega
        rw [hlen] at hown
        have hlen := hide hlen
        have hsz1 : Ty.sizes xs[j].args ≤ 1048576 := by
          have h1 := Ty.sizes_take xs j hjx
          have h2 := Ty.sizes_take_le xs (j + 1)
          omega
        obtain ⟨u0, u1⟩ := hB.two
        obtain ⟨s0, s1⟩ := hB3.two
        go_wp2_with fail
        go_region_law (first
          | (go_simp; go_at_call 38; (with_reducible refine (IH.out _ (List.getElem_mem hjx) _ _ _ (hd.below (below_drew _)) hsz1).mono ?_); rintro e w1 ⟨d0, d1, f, rfl, hR1, hnd1, hO1, b1⟩; replace b1 : Below wr.heap.size wr w1 := below_next (below_drew _) b1; have s1 := b1.size; have y1 := (hB3.under b1).two.2; have y2 := (hB3.under b1).two_new.2; obtain ⟨xa, xn, xc, rfl, rfl, -, -⟩ := hR1.rd.shape)
          | (refine step_append_lies _ (by rfl) _ _ _ (by rfl) (w.heap.size + 1 + 1 + 1) 26 i0 _ 2 32 Try.underlying24 hi hz0 hz1 hz2 rfl (by omega) v j cs (by rfl) ((own_below hown b1).alloc _) ⟨w1.heap.size, 0, none⟩ 1 1 [.int .i64 xs[j].kind, .slice xa xn xc] (by rfl) (by rfl) (World.news_of_block (cs := #[.int .i64 xs[j].kind, .slice xa xn xc]) (t := 26) (fr := (0, 0)) (heap_alloc_new w1 _)) (by simp [Value.oneCell']) (by omega) (by unfold maxLen; omega) (by omega) (by simp; omega) (w1.heap.size + 1) (by simp) ?_; intro gg cap' w2 hown2 hgrow hat hlt2
             have hB4 := laid_box hB3 hown (by omega) b1 hgrow
             have z0 := hB4.two.2
             have z1 := hB4.free 1))
        all_goals
          go_wp2_with fail
          go_roundw
          case rel =>
            have hB5 := hB.under b1
            refine ⟨j + 1, by omega, by go_num, ?_, ?_, ?_, ?_, ?_⟩
            · rw [take_snoc xs j hjx]
              exact laid_step hlen.out.symm hB3 hown hRC hnd hOwn hap (by omega) hsb b1 hR1 hnd1 hO1 hown2 hgrow rfl (by simpa using hat)
            · have := hgrow.size
              simp at this ⊢
              omega
            · exact laid_keep hB hown (by omega) (by omega) b1 hgrow
            · exact laid_keep hB1 hown (by omega) (by omega) b1 hgrow
            · exact laid_below hb hown (by omega) (by omega) hsz b1 hgrow
          case measure => simp [intOf]; omega
      · have hx1 : n = xs.length := hr.1
        rw [List.take_of_length_le (by omega)] at hL
        obtain ⟨ra, rn, rc, fp, hB3, hT, hnd, hOwn⟩ := laid_RT hL hk
        clear hL
        obtain ⟨u0, u1⟩ := hB.two
        obtain ⟨s0, s1⟩ := hB3.two
        obtain ⟨y0, y1⟩ := hB1.two
        have z0 := hB1.free 0
        have z1 := hB1.free 1
        go_wp2_with fail
        have far : ∀ x ∈ fp, SameB wr ((wr.setCell ⟨w.heap.size + 1, 0, none⟩ (.int .i64 k)).setCell ⟨w.heap.size + 1, 1, none⟩ (.slice ra rn rc)) x := fun x hx => by
          have := hOwn.1 x hx
          exact (same_set (p := ⟨w.heap.size + 1, 0, none⟩) (by simp; omega) _).trans (same_set (p := ⟨w.heap.size + 1, 1, none⟩) (by simp; omega) _)
        refine bodyPost_ret (v := .agg #[.int .i64 k, .slice ra rn rc]) (by simp [results, Try.results38, go_sem, y0, y1]) rfl ⟨_, _, fp, rfl, RT.keep _ _ _ _ hT far, hnd, ⟨fun x hx => by have := hOwn.1 x hx; omega, (hOwn.2.set_ _ _).set_ _ _⟩, ?_⟩
        exact (hb.setCell (p := ⟨w.heap.size + 1, 0, none⟩) (by simp) _).setCell (p := ⟨w.heap.size + 1, 1, none⟩) (by simp) _

set_option maxHeartbeats 400000 in
theorem l3Copy_any (t : Ty) : ∀ (c0 c1 : Value) (w : World), Rd w t c0 c1 → Ty.sizes t.args ≤ 1048576 → Calls Try.prog 38 #[.agg #[c0, c1]] w (Copied w t) := by
  induction t using Ty.ind with | h k xs ih => ?_
  intro c0 c1 w h hl
  obtain ⟨a, n, cap, rfl, rfl, hk, hr⟩ := h.shape
  exact l3Copy_of k xs ih a n cap w h hl hk hr

/-- From block 'base' on nothing old has turned. -/
def Fresh (base : Nat) (w w' : World) : Prop := w.heap.size ≤ w'.heap.size ∧ ∀ b, base ≤ b → b < w.heap.size → w'.heap[b]? = w.heap[b]?
theorem Fresh.of_below {base : Nat} {w w' : World} (h : Below w.heap.size w w') : Fresh base w w' := ⟨h.size, fun b _ hb => h.block b hb⟩
theorem Fresh.trans {base : Nat} {a b c : World} (h : Fresh base a b) (k : Fresh base b c) : Fresh base a c := ⟨Nat.le_trans h.1 k.1, fun x hx hl => (k.2 x hx (Nat.lt_of_lt_of_le hl h.1)).trans (h.2 x hx hl)⟩
theorem Fresh.mono {base base' : Nat} {a b : World} (h : Fresh base a b) (hb : base ≤ base') : Fresh base' a b := ⟨h.1, fun x hx hl => h.2 x (Nat.le_trans hb hx) hl⟩
theorem Fresh.set_ {base : Nat} {w : World} {p : Addr} (hp : p.block < base) (u : Value) : Fresh base w (w.setCell p u) :=
  ⟨by simp [World.setCell], fun b hb _ => Below.heap_setCell w p u b (by omega)⟩
/-- The second cell of a type of one's own: its parts in a row of one's own, whatever they hold from 'base' on. -/
def OwnTy (base : Nat) (w : World) (t : Ty) (v : Value) : Prop := i64 t.kind ∧ ∃ cs fp, w.ownsRow base 26 2 v t.args.length cs ∧ RC w t.args cs fp ∧ (∀ b ∈ fp, base ≤ b) ∧ ∀ g, v.ownBlock = some g → g ∉ fp
theorem own_fresh {base T size n : Nat} {w w' : World} {v : Value} {cs : List Value} (h : w.ownsRow base T size v n cs) (hk : Fresh base w w') : w'.ownsRow base T size v n cs := by
  refine ⟨h.1, ?_⟩
  rcases h.2 with hn | ⟨g, cap, cur, rfl, hg, hh, r⟩
  · exact .inl hn
  · exact .inr ⟨g, cap, cur, rfl, hg, (hk.2 g hg (Array.getElem?_eq_some_iff.1 hh).1).trans hh, r⟩
theorem OwnTy.keep {base : Nat} {w w' : World} {t : Ty} {v : Value} (h : OwnTy base w t v) (hk : Fresh base w w') : OwnTy base w' t v := by
  obtain ⟨hi, cs, fp, hown, hRC, hge, hap⟩ := h
  exact ⟨hi, cs, fp, own_fresh hown hk, RC_keep hRC fun b hb => SameB.of_heap (hk.2 b (hge b hb) (RC_lt hRC b hb)), hge, hap⟩
theorem OwnTy.base {base base' : Nat} {w : World} {t : Ty} {v : Value} (h : OwnTy base w t v) (hb : base' ≤ base) : OwnTy base' w t v := by
  obtain ⟨hi, cs, fp, hown, hRC, hge, hap⟩ := h
  refine ⟨hi, cs, fp, ⟨hown.1, ?_⟩, hRC, fun b hb' => Nat.le_trans hb (hge b hb'), hap⟩
  rcases hown.2 with hn | ⟨g, cap, cur, rfl, hg, hh, r⟩
  · exact .inl hn
  · exact .inr ⟨g, cap, cur, rfl, Nat.le_trans hb hg, hh, r⟩
theorem OwnTy.rd {base : Nat} {w : World} {t : Ty} {v : Value} (h : OwnTy base w t v) : ∃ a n c, v = .slice a n c ∧ Rd w t (.int .i64 t.kind) (.slice a n c) := by
  obtain ⟨k, ts⟩ := t
  obtain ⟨hi, cs, fp, hown, hRC, hge, hap⟩ := h
  rcases hown.2 with ⟨rfl, hn⟩ | ⟨g, cap, cur, rfl, hg, hh, hle, hm, hsz, htk⟩
  · have : ts = [] := List.length_eq_zero_iff.1 hn
    subst this
    exact ⟨none, 0, 0, rfl, Rd.mk hi ⟨rfl, Nat.le_refl _, by simp, .inl rfl⟩⟩
  · have hR : RTs w ts g 0 fp := RC_rts hRC fun j u hu => by
      have := hown.cells (g := g) rfl j u hu
      simpa [Addr.add_lit] using this
    refine ⟨_, _, _, rfl, Rd.mk hi ⟨rfl, hle, hm, ?_⟩⟩
    by_cases hx : ts = []
    · exact .inl hx
    · exact .inr ⟨hx, g, 0, fp, rfl, hR⟩
/-- No parts. -/
theorem OwnTy.nil (base : Nat) (w : World) (k : Int) (hk : i64 k) : OwnTy base w ⟨k, []⟩ (.slice none 0 0) :=
  ⟨hk, [], [], ⟨rfl, .inl ⟨rfl, rfl⟩⟩, ⟨rfl, rfl⟩, by simp, by simp [Value.ownBlock]⟩
/-- Another kind. -/
theorem OwnTy.kind {base : Nat} {w : World} {t : Ty} {v : Value} (h : OwnTy base w t v) {k : Int} (hk : i64 k) : OwnTy base w ⟨k, t.args⟩ v := ⟨hk, h.2⟩
/-- A slice written out, behind stores that leave the rest alone. -/
theorem OwnTy.lit {base n : Nat} {w1 W' : World} {k : Int} {ts : List Ty} {cs : List Value} {fp : List Nat} (hk : i64 k) (hF : Fresh base w1 W') (hsz : W'.heap.size = w1.heap.size) (hbs : base ≤ w1.heap.size) (hRC : RC w1 ts cs fp) (hge : ∀ b ∈ fp, base ≤ b)
    (hn : n = ts.length) (hm : n ≤ maxLen) : OwnTy base (W'.alloc (.cells cs.toArray 26)) ⟨k, ts⟩ (.slice (some ⟨w1.heap.size, 0, none⟩) n n) := by
  have hlt := RC_lt hRC
  have hcl := RC_len hRC
  subst hn
  refine ⟨hk, cs, fp, ⟨hcl, .inr ⟨w1.heap.size, ts.length, cs.toArray, rfl, hbs, ?_, Nat.le_refl _, hm, by simp [hcl], List.take_of_length_le (by simp [hcl])⟩⟩, RC_keep hRC fun b hb => SameB.of_heap ?_, hge, fun g hg hin => ?_⟩
  · have := heap_alloc_new W' (.cells cs.toArray 26)
    rw [hsz] at this
    exact this
  · rw [Below.heap_alloc _ _ _ (by rw [hsz]; exact hlt b hb)]
    exact hF.2 b (hge b hb) (hlt b hb)
  · have h1 : w1.heap.size = g := by simpa [Value.ownBlock] using hg
    have := hlt g hin
    omega
/-- What a call gives that makes a type. -/
def GivesTy (w : World) (t : Ty) (e : Ending) (w' : World) : Prop := ∃ v, e = .returned (.agg #[.int .i64 t.kind, v]) ∧ OwnTy w.heap.size w' t v ∧ Below w.heap.size w w'

theorem l3Int_eq (w : World) : Calls Try.prog 51 #[] w fun e w' => e = .returned (.agg #[.int .i64 1, .slice none 0 0]) ∧ Below w.heap.size w w' := by
  go_enter Try.func51, Try.ntmps51
  go_wp2_with fail
  exact bodyPost_ret (v := .agg #[.int .i64 1, .slice none 0 0]) (by simp [results, Try.results51, go_sem]) rfl ⟨rfl, below_new _ _⟩
theorem l3Int_any (w : World) : Calls Try.prog 51 #[] w (GivesTy w ⟨1, []⟩) := (l3Int_eq w).mono fun e w' ⟨he, hb⟩ => ⟨_, he, OwnTy.nil _ _ _ ⟨by omega, by omega⟩, hb⟩
set_option maxHeartbeats 800000 in
theorem l3Code_any (t : Ty) (c0 c1 : Value) (w : World) (h : Rd w t c0 c1) (hl : Ty.sizes t.args ≤ 1048576) : Calls Try.prog 52 #[.agg #[c0, c1]] w (GivesTy w ⟨4, [t]⟩) := by
  go_enter Try.func52, Try.ntmps52
  go_wp2_with fail
  refine (l3Copy_any t _ _ _ (h.below (by repeat (first | exact Below.refl _ _ | assumption | refine Below.drew ?_ | refine below_drewN ?_ _ | refine Below.alloc ?_ (by first | omega | (simp; done) | (simp; omega)) _ | refine Below.setCell ?_ (by first | omega | (simp; done) | (simp; omega)) _))) hl).mono ?_
  rintro e w1 ⟨d0, d1, f, rfl, hR, hnd, hO, b1⟩
  obtain ⟨xa, xn, xc, rfl, rfl, -, -⟩ := hR.rd.shape
  have B1 := (Blk.new2 w (.cells #[c0, c1] 26) 26 #[.int .i64 0, .slice none 0 0]).under b1
  obtain ⟨q0, q1⟩ := B1.two
  obtain ⟨y0, y1⟩ := B1.two_new
  have x0 := B1.free 0
  have x1 := B1.free 1
  have k1 : Below w.heap.size w w1 := below_of_alloc (below_of_alloc b1)
  have hge : ∀ b ∈ f, w.heap.size + 1 + 1 ≤ b := fun b hb => by have := hO.1 b hb; simp at this; omega
  have hlt := RT.lt _ _ _ _ hR
  have hs1 := B1.lt
  go_wp2_with fail
  have hF : Fresh (w.heap.size + 1 + 1) w1 ((w1.setCell ⟨w.heap.size + 1, 0, none⟩ (.int .i64 4)).setCell ⟨w.heap.size + 1, 1, none⟩ (.slice (some ⟨w1.heap.size, 0, none⟩) 1 1)) :=
    (Fresh.set_ (p := ⟨w.heap.size + 1, 0, none⟩) (by simp) _).trans (Fresh.set_ (p := ⟨w.heap.size + 1, 1, none⟩) (by simp) _)
  have hown : OwnTy (w.heap.size + 1 + 1) _ ⟨4, [t]⟩ (.slice (some ⟨w1.heap.size, 0, none⟩) 1 1) := OwnTy.lit (k := 4) (ts := [t]) (cs := [.int .i64 t.kind, .slice xa xn xc]) (fp := f) ⟨by simp, by simp⟩ hF (by simp [World.setCell]) (by omega) ⟨_, _, [], f, [], rfl, by simp, hR, rfl, rfl⟩ hge rfl (by unfold maxLen; omega)
  have kf := ((k1.setCell (p := ⟨w.heap.size + 1, 0, none⟩) (by simp) (.int .i64 4)).setCell (p := ⟨w.heap.size + 1, 1, none⟩) (by simp) (.slice (some ⟨w1.heap.size, 0, none⟩) 1 1)).alloc (by simp [World.setCell]; omega) (.cells #[.int .i64 t.kind, .slice xa xn xc] 26)
  refine bodyPost_ret (v := .agg #[.int .i64 4, .slice (some ⟨w1.heap.size, 0, none⟩) 1 1]) ?_ rfl ⟨_, rfl, hown.base (by omega), kf⟩
  simp [results, Try.results52, go_sem, q0, q1, hs1]
set_option maxHeartbeats 1600000 in
theorem l3Fun_any (t u : Ty) (c0 c1 e0 e1 : Value) (w : World) (h : Rd w t c0 c1) (h' : Rd w u e0 e1) (hl : Ty.sizes t.args ≤ 1048576) (hl' : Ty.sizes u.args ≤ 1048576) :
    Calls Try.prog 53 #[.agg #[c0, c1], .agg #[e0, e1]] w (GivesTy w ⟨3, [t, u]⟩) := by
  have B0 := ((Blk.new w 26 #[c0, c1]).alloc (.cells #[e0, e1] 26)).alloc (.cells #[.int .i64 0, .slice none 0 0] 26)
  have B1 := (Blk.new2 w (.cells #[c0, c1] 26) 26 #[e0, e1]).alloc (.cells #[.int .i64 0, .slice none 0 0] 26)
  have B2 := Blk.new3 w (.cells #[c0, c1] 26) (.cells #[e0, e1] 26) 26 #[.int .i64 0, .slice none 0 0]
  have k0 : Below w.heap.size w (((w.alloc (.cells #[c0, c1] 26)).alloc (.cells #[e0, e1] 26)).alloc (.cells #[.int .i64 0, .slice none 0 0] 26)) := (by repeat (first | exact Below.refl _ _ | assumption | refine Below.drew ?_ | refine below_drewN ?_ _ | refine Below.alloc ?_ (by first | omega | (simp; done) | (simp; omega)) _ | refine Below.setCell ?_ (by first | omega | (simp; done) | (simp; omega)) _))
  generalize hW : ((w.alloc (.cells #[c0, c1] 26)).alloc (.cells #[e0, e1] 26)).alloc (.cells #[.int .i64 0, .slice none 0 0] 26) = W at B0 B1 B2 k0
  have hT : Rd W t c0 c1 := h.below k0
  have hU : Rd W u e0 e1 := h'.below k0
  have HW := hide hW
  have hsW : W.heap.size = w.heap.size + 1 + 1 + 1 := by rw [← hW]; simp
  clear hW
  have HB0 := hide B0
  have HB1 := hide B1
  have HB2 := hide B2
  go_enter Try.func53, Try.ntmps53
  go_wp2_with fail
  rw [HW.out]
  obtain ⟨u0, u1⟩ := B0.two
  obtain ⟨v0, v1⟩ := B1.two
  go_region_law (first
    | (go_simp; go_at_call 38; (with_reducible refine (l3Copy_any t c0 c1 _ (hT.below (below_drew _)) hl).mono ?_); rintro e w1 ⟨d0, d1, f, rfl, hR, hnd, hO, b1⟩; replace hO : Own W.heap.size w1 f := hO; replace b1 : Below W.heap.size W w1 := below_next (below_drew _) b1; obtain ⟨xa, xn, xc, rfl, rfl, -, -⟩ := hR.rd.shape; obtain ⟨v2, v3⟩ := (HB1.out.under b1).two; have hU1 := hU.below b1)
    | (go_simp; go_at_call 38; (with_reducible refine (l3Copy_any u e0 e1 _ hU1 hl').mono ?_); rintro e w2 ⟨p0, p1, f2, rfl, hR2, hnd2, hO2, b2⟩; obtain ⟨ya, yn, yc, rfl, rfl, -, -⟩ := hR2.rd.shape; have B3 := (HB2.out.under b1).under b2; obtain ⟨q0, q1⟩ := B3.two; obtain ⟨y0, y1⟩ := B3.two_new; have x0 := B3.free 0; have x1 := B3.free 1; have hs3 := B3.lt))
  all_goals
    have s1 := b1.size
    have s2 := b2.size
    have k2 : Below w.heap.size w w2 := k0.trans ((below_next b1 b2).mono k0.size)
    have hlt := RT.lt _ _ _ _ hR
    have hlt2 := RT.lt _ _ _ _ hR2
    have hR3 := RT.below hR b2
    go_wp2_with fail
    have hF : Fresh W.heap.size w2 ((w2.setCell ⟨w.heap.size + 1 + 1, 0, none⟩ (.int .i64 3)).setCell ⟨w.heap.size + 1 + 1, 1, none⟩ (.slice (some ⟨w2.heap.size, 0, none⟩) 2 2)) :=
      (Fresh.set_ (p := ⟨w.heap.size + 1 + 1, 0, none⟩) (by simp; omega) _).trans (Fresh.set_ (p := ⟨w.heap.size + 1 + 1, 1, none⟩) (by simp; omega) _)
    have hown : OwnTy W.heap.size _ ⟨3, [t, u]⟩ (.slice (some ⟨w2.heap.size, 0, none⟩) 2 2) := OwnTy.lit (k := 3) (ts := [t, u]) (cs := [.int .i64 t.kind, .slice xa xn xc, .int .i64 u.kind, .slice ya yn yc]) (fp := f ++ f2) ⟨by simp, by simp⟩ hF (by simp [World.setCell]) (by omega)
      ⟨_, _, _, f, f2, rfl, rfl, hR3, _, _, [], f2, [], rfl, by simp, hR2, rfl, rfl⟩ (fun b hb => (List.mem_append.1 hb).elim (hO.1 b) fun h => Nat.le_trans s1 (hO2.1 b h)) rfl (by unfold maxLen; omega)
    have kf := ((k2.setCell (p := ⟨w.heap.size + 1 + 1, 0, none⟩) (by simp; omega) (.int .i64 3)).setCell (p := ⟨w.heap.size + 1 + 1, 1, none⟩) (by simp; omega) (.slice (some ⟨w2.heap.size, 0, none⟩) 2 2)).alloc (by simp [World.setCell]; omega) (.cells #[.int .i64 t.kind, .slice xa xn xc, .int .i64 u.kind, .slice ya yn yc] 26)
    refine bodyPost_ret (v := .agg #[.int .i64 3, .slice (some ⟨w2.heap.size, 0, none⟩) 2 2]) ?_ rfl ⟨_, rfl, hown.base (by omega), kf⟩
    simp [results, Try.results53, go_sem, q0, q1, hs3]
end Go.Proofs.Ytmdmnchnkfjpjaa

namespace Go.Proofs.Ytmdmnchnkfjpjaa
open Go.RowKit
set_option maxRecDepth 100000
set_option linter.unusedVariables false
set_option linter.unusedSimpArgs false

theorem Drew.fresh {p base : Nat} {w w' : World} (h : Drew p w w') (hb : p < base) : Fresh base w w' := ⟨h.size, fun b hb' hl => h.block hl (by omega)⟩
/-- A drawn type of at most N nodes. -/
def DrawsTy (p N : Nat) (w : World) (e : Ending) (w' : World) : Prop := ∃ (t : Ty) (v : Value), e = .returned (.agg #[.int .i64 t.kind, v]) ∧ OwnTy w.heap.size w' t v ∧ t.size ≤ N ∧ Drew p w w'
theorem Ty.size_two (k : Int) (t u : Ty) : Ty.size ⟨k, [t, u]⟩ = 1 + t.size + u.size := by simp [Ty.size, Ty.sizes]; omega
theorem Ty.size_one (k : Int) (t : Ty) : Ty.size ⟨k, [t]⟩ = 1 + t.size := by simp [Ty.size, Ty.sizes]
theorem Ty.sizes_of_size {t : Ty} {N : Nat} (h : t.size ≤ N) : Ty.sizes t.args ≤ N := by have := t.size_eq; omega
theorem Drew.alloc {p : Nat} {w : World} (h : Cur w p) (o : Obj) : Drew p w (w.alloc o) := Drew.of_below h (below_new w o)
theorem ints3 : ∀ j (hj : j < (#[Value.int .i64 1, .int .i64 1, .int .i64 2] : Array Value).size), ∃ z : Int, (#[Value.int .i64 1, .int .i64 1, .int .i64 2] : Array Value)[j] = .int .i64 z ∧ i64 z := by
  intro j hj
  match j, hj with
  | 0, _ => exact ⟨1, rfl, by simp [i64]⟩
  | 1, _ => exact ⟨1, rfl, by simp [i64]⟩
  | 2, _ => exact ⟨2, rfl, by simp [i64]⟩
  | n + 3, h => simp at h; omega
/-- A block of one's own is stored to. -/
theorem Drew.set_ {p : Nat} {w : World} (h : Cur w p) {q : Addr} (hq : p < q.block) (base : Nat) (u : Value) : Cur (w.setCell q u) p := h.keep fun b hb => Below.heap_setCell w q u b (by omega)

/-- Behind a store into one's own result block. -/
theorem DrawsTy.mk {p N R : Nat} {w w1 : World} {t : Ty} {v : Value} {base : Nat} (hR : w.heap.size = R) (hC : Cur w p) (ho : OwnTy base w1 t v) (hb : R < base) (hs : t.size ≤ N) (hd : Drew p w w1) (hl : R < w1.heap.size) :
    DrawsTy p N w (.returned (.agg #[.int .i64 t.kind, v])) ((w1.setCell ⟨R, 0, none⟩ (.int .i64 t.kind)).setCell ⟨R, 1, none⟩ v) := by
  have hp := hC.lt
  have hF : Fresh base w1 ((w1.setCell ⟨R, 0, none⟩ (.int .i64 t.kind)).setCell ⟨R, 1, none⟩ v) := (Fresh.set_ (p := ⟨R, 0, none⟩) hb _).trans (Fresh.set_ (p := ⟨R, 1, none⟩) hb _)
  have hB : Below R w1 ((w1.setCell ⟨R, 0, none⟩ (.int .i64 t.kind)).setCell ⟨R, 1, none⟩ v) := ((Below.refl _ _).setCell (p := ⟨R, 0, none⟩) (Nat.le_refl _) _).setCell (p := ⟨R, 1, none⟩) (Nat.le_refl _) _
  refine ⟨t, v, rfl, (ho.keep hF).base (by omega), hs, hd.1.keep fun b hb => hB.block b (by omega), hd.2.os, hd.2.tape, hd.2.output, Nat.le_trans hd.size hB.size, fun b hb hn => ?_, fun b o hb => ?_⟩
  · exact (hB.block b (by omega)).trans (hd.2.block b hb hn)
  · exact (hB.frozen (p := ⟨b, o, none⟩) (by simp; omega)).trans (hd.2.frozen b o hb)

theorem pow_bounds (d : Nat) (h : 2 ≤ d) (h8 : d ≤ 8) : ∃ M N : Nat, M = 2 ^ (d - 1) - 1 + (1 - (d - 1)) ∧ N = 2 ^ d - 1 + (1 - d) ∧ 1 + 2 * M ≤ N ∧ 1 ≤ M ∧ M ≤ 128 := by
  refine ⟨_, _, rfl, rfl, ?_⟩
  have : d = 2 ∨ d = 3 ∨ d = 4 ∨ d = 5 ∨ d = 6 ∨ d = 7 ∨ d = 8 := by omega
  rcases this with rfl | rfl | rfl | rfl | rfl | rfl | rfl <;> decide
set_option maxHeartbeats 3200000 in
theorem l3Draw_any (p : Nat) (d : Nat) : d ≤ 8 → ∀ w, Cur w p → Calls Try.prog 50 #[.pointer (some ⟨p, 0, none⟩), .int .i64 (d : Int)] w (DrawsTy p (2 ^ d - 1 + (1 - d)) w) := by
  induction d using Nat.strongRecOn with
  | _ d ih =>
    intro hd8 w hC
    have hlt := hC.lt
    have d0 := Drew.alloc hC (.cells #[.int .i64 0, .slice none 0 0] 26)
    have B0 := Blk.new w 26 #[.int .i64 0, .slice none 0 0]
    have leaf : ∀ (N : Nat), 1 ≤ N → ∀ (W1 : World) (S : Nat), S = W1.heap.size → Drew p w W1 → Blk W1 w.heap.size 26 #[.int .i64 0, .slice none 0 0] →
        Calls Try.prog 34 #[.pointer (some ⟨p, 0, none⟩), .slice (some ⟨S, 0, none⟩) 3 3] (W1.alloc (.cells #[.int .i64 1, .int .i64 1, .int .i64 2] 3)) fun e w2 => ∃ z : Int, e = .returned (.int .i64 z) ∧ i64 z ∧ Blk w2 w.heap.size 26 #[.int .i64 0, .slice none 0 0] ∧ Drew p w w2 := by
      intro N hN W1 S hS d1 B1
      subst hS
      have d2 := d1.trans (Drew.alloc d1.cur (.cells #[.int .i64 1, .int .i64 1, .int .i64 2] 3))
      refine (l1PickInt_any p W1.heap.size 3 3 _ _ d2.cur (Blk.new W1 _ _) d1.cur.lt rfl (by omega) (by omega) ints3).mono ?_
      rintro e w2 ⟨z, rfl, hz, -, d3⟩
      exact ⟨z, rfl, hz, (d3.block (by have := B1.lt; simp; omega) (by omega)).trans (B1.alloc _), d2.trans d3⟩
    by_cases h2 : d < 2
    · have hd : decide ((d : Int) < 2) = true := by simp; omega
      have hN : 1 ≤ 2 ^ d - 1 + (1 - d) := by
        have : d = 0 ∨ d = 1 := by omega
        rcases this with rfl | rfl <;> decide
      generalize 2 ^ d - 1 + (1 - d) = N at hN ⊢
      clear ih
      have L := leaf N hN _ (w.heap.size + 1) (by simp) d0 B0
      clear leaf
      go_enter Try.func50, Try.ntmps50
      go_wp2_with fail
      refine L.mono ?_
      rintro e w2 ⟨z, rfl, hz, B2, d2⟩
      obtain ⟨u0, u1⟩ := B2.two
      have z0 := B2.free 0
      have z1 := B2.free 1
      go_wp2_with fail
      refine bodyPost_ret (v := .agg #[.int .i64 z, .slice none 0 0]) (by simp [results, Try.results50, go_sem, u0, u1]) rfl (DrawsTy.mk (t := ⟨z, []⟩) rfl hC (OwnTy.nil (w.heap.size + 1) _ _ hz) (by omega) (by simp [Ty.size, Ty.sizes]; omega) d2 B2.lt)
    · obtain ⟨M, N, hM, hN, h1, h3, h4⟩ := pow_bounds d (by omega) hd8
      have IH := ih (d - 1) (by omega) (by omega)
      have hd : decide ((d : Int) < 2) = false := by simp; omega
      have hcast : ((d - 1 : Nat) : Int) = (d : Int) - 1 := by omega
      rw [← hM, hcast] at IH
      rw [← hN]
      have HI := hide IH
      clear ih IH hM hN hcast
      go_enter Try.func50, Try.ntmps50
      go_wp2_with fail
      refine (l1Once_any p 2 _ d0.cur (by omega)).mono ?_
      rintro e w1 ⟨b, rfl, d1⟩
      have D1 := d0.trans d1
      have B1 : Blk w1 w.heap.size _ _ := (d1.block B0.lt (by omega)).trans B0
      have L := leaf N (by omega) _ _ rfl D1 B1
      clear leaf
      cases b with
      | true =>
        go_wp2_with fail
        refine L.mono ?_
        rintro e w2 ⟨z, rfl, hz, B2, d2⟩
        obtain ⟨u0, u1⟩ := B2.two
        have z0 := B2.free 0
        have z1 := B2.free 1
        go_wp2_with fail
        refine bodyPost_ret (v := .agg #[.int .i64 z, .slice none 0 0]) (by simp [results, Try.results50, go_sem, u0, u1]) rfl (DrawsTy.mk (t := ⟨z, []⟩) rfl hC (OwnTy.nil (w.heap.size + 1) _ _ hz) (by omega) (by simp [Ty.size, Ty.sizes]; omega) d2 B2.lt)
      | false =>
        clear L
        go_wp2_with fail
        refine (l1Once_any p 2 _ D1.cur (by omega)).mono ?_
        rintro e w2 ⟨b, rfl, d2⟩
        have D2 := D1.trans d2
        have s1 := D1.size
        have B2 : Blk w2 w.heap.size _ _ := (d2.block B1.lt (by omega)).trans B1
        have lB2 := B2.lt
        cases b with
        | true =>
          go_wp2_with fail
          refine (HI.out _ D2.cur).mono ?_
          rintro e w3 ⟨t, v, rfl, ho, hs, d3⟩
          have D3 := D2.trans d3
          have B3 : Blk w3 w.heap.size _ _ := (d3.block B2.lt (by omega)).trans B2
          obtain ⟨va, vn, vc, rfl, hr⟩ := ho.rd
          go_wp2_with fail
          refine (l3Code_any t _ _ _ hr (by have := Ty.sizes_of_size hs; omega)).mono ?_
          rintro e w4 ⟨v4, rfl, ho4, b4⟩
          obtain ⟨ga, gn, gc, rfl, -⟩ := ho4.rd
          have D4 := D3.next b4
          have B4 := B3.under b4
          obtain ⟨u0, u1⟩ := B4.two
          have z0 := B4.free 0
          have z1 := B4.free 1
          have lB3 := B3.lt
          go_wp2_with fail
          refine bodyPost_ret (v := .agg #[.int .i64 4, .slice ga gn gc]) (by simp [results, Try.results50, go_sem, u0, u1]) rfl (DrawsTy.mk (t := ⟨4, [t]⟩) rfl hC ho4 (by omega) (by rw [Ty.size_one]; omega) D4 B4.lt)
        | false =>
          go_wp2_with fail
          refine (HI.out _ D2.cur).mono ?_
          rintro e w3 ⟨t, v, rfl, ho, hs, d3⟩
          have D3 := D2.trans d3
          have B3 : Blk w3 w.heap.size _ _ := (d3.block B2.lt (by omega)).trans B2
          obtain ⟨va, vn, vc, rfl, hr⟩ := ho.rd
          have DX := D3.trans (Drew.alloc D3.cur (.cells #[.int .i64 t.kind, .slice va vn vc] 26))
          have BX := Blk.new w3 26 #[.int .i64 t.kind, .slice va vn vc]
          have BR := B3.alloc (.cells #[.int .i64 t.kind, .slice va vn vc] 26)
          have hoX := ho.keep (Fresh.of_below (below_new w3 (.cells #[.int .i64 t.kind, .slice va vn vc] 26)))
          have lB3 := B3.lt
          have hX3 : (w3.alloc (.cells #[.int .i64 t.kind, .slice va vn vc] 26)).heap.size = w3.heap.size + 1 := by simp
          have h23 := d3.size
          go_wp2_with fail
          generalize w3.alloc (.cells #[.int .i64 t.kind, .slice va vn vc] 26) = W4 at DX BX BR hoX hX3 ⊢
          have hC5 : Cur W4.drew p := DX.cur.below (below_drew _)
          have HBX := hide BX
          obtain ⟨x0, x1⟩ := BX.two
          have hwr : IntKind.i64.wrap ((d : Int) - 1) = (d : Int) - 1 := IntWalk.i64_in _ (by omega)
          go_region_law (first
            | (go_simp; go_at_call 50; (with_reducible refine (HI.out _ hC5).mono ?_); rintro e w5 ⟨u, v5, rfl, ho5, hs5, d5⟩; replace ho5 : OwnTy W4.heap.size w5 u v5 := ho5; replace d5 : Drew p W4 w5 := Drew.after DX.cur (below_drew _) d5; obtain ⟨ua, un, uc, rfl, hr5⟩ := ho5.rd; have BX5 : Blk w5 w3.heap.size _ _ := (d5.block HBX.out.lt (by omega)).trans HBX.out; obtain ⟨x2, x3⟩ := BX5.two; have hoX5 := hoX.keep (d5.fresh (by omega)); obtain ⟨ta, tn, tc, hv5, hrX⟩ := hoX5.rd; obtain ⟨rfl, rfl, rfl⟩ : ta = va ∧ tn = vn ∧ tc = vc := (by injection hv5 with q1 q2 q3; exact ⟨q1.symm, q2.symm, q3.symm⟩))
            | (go_simp; go_at_call 53; (with_reducible refine (l3Fun_any t u _ _ _ _ _ hrX hr5 (by have := Ty.sizes_of_size hs; omega) (by have := Ty.sizes_of_size hs5; omega)).mono ?_); rintro e w6 ⟨v6, rfl, ho6, b6⟩; obtain ⟨ga, gn, gc, rfl, -⟩ := ho6.rd; have B6 : Blk w6 w.heap.size 26 #[.int .i64 0, .slice none 0 0] := Blk.under ((d5.block BR.lt (by omega)).trans BR) b6; obtain ⟨u0, u1⟩ := B6.two; have z0 := B6.free 0; have z1 := B6.free 1))
          all_goals
            have s5 := d5.size
            go_wp2_with fail
            refine bodyPost_ret (v := .agg #[.int .i64 3, .slice ga gn gc]) (by simp [results, Try.results50, go_sem, u0, u1]) rfl (DrawsTy.mk (t := ⟨3, [t, u]⟩) rfl hC ho6 (by omega) (by rw [Ty.size_two]; omega) ((DX.trans d5).next b6) B6.lt)
end Go.Proofs.Ytmdmnchnkfjpjaa

namespace Go.Proofs.Ytmdmnchnkfjpjaa
open Go.RowKit
set_option maxRecDepth 100000
set_option linter.unusedVariables false
set_option linter.unusedSimpArgs false

/-- One part more, appended to a row of one's own; its box X is stored to. -/
theorem OwnTy.snoc {base g X n : Nat} {t : Ty} {k : Int} {wr w1 w2 : World} {v v' : Value} {cs : List Value} {fp : List Nat} {o : Obj} (hi : i64 t.kind) (hk : i64 k) (hn : n = t.args.length)
    (hown : wr.ownsRow base 26 2 v n cs) (hRC : RC wr t.args cs fp) (hge : ∀ b ∈ fp, base ≤ b) (hap : ∀ g, v.ownBlock = some g → g ∉ fp) (hX : ∀ b ∈ fp, b < X) (hXg : ∀ g, v.ownBlock = some g → g < X) (hXl : X < wr.heap.size) (hbs : base ≤ wr.heap.size)
    (b1 : Below wr.heap.size wr w1) (hown2 : w2.ownsRow base 26 2 v' (n + 1) (cs ++ [.int .i64 k, .slice none 0 0])) (hgrow : (w1.alloc o).grownBy w2 v.ownBlock) (hv' : v'.ownBlock = some g) (hat : v.ownBlock = some g ∨ g = (w1.alloc o).heap.size) :
    OwnTy base (w2.setCell ⟨X, 1, none⟩ v') ⟨t.kind, t.args ++ [⟨k, []⟩]⟩ v' := by
  have lt1 : ∀ x ∈ fp, x < wr.heap.size := RC_lt hRC
  have s1 := b1.size
  have blk1 : ∀ x ∈ fp, w2.heap[x]? = wr.heap[x]? := fun x hx => by
    have := lt1 x hx
    rw [hgrow.block x (by simp; omega) (fun e => hap x e.symm hx), Below.heap_alloc _ _ _ (by omega), b1.block x this]
  have far : ∀ x, x ≠ X → (w2.setCell ⟨X, 1, none⟩ v').heap[x]? = w2.heap[x]? := fun x hx => Below.heap_setCell w2 ⟨X, 1, none⟩ v' x hx
  have hgX : g ≠ X := by
    rcases hat with h | h
    · have := hXg g h
      omega
    · simp at h
      omega
  refine ⟨hi, cs ++ [.int .i64 k, .slice none 0 0], fp, ⟨by have := hown2.1; simpa [hn] using this, ?_⟩, ?_, hge, fun g' hg' hin => ?_⟩
  · rcases hown2.2 with ⟨rfl, hz⟩ | ⟨g2, cap, cur, rfl, hg, hh, hle, r⟩
    · simp [Value.ownBlock] at hv'
    · have : g2 = g := by simpa [Value.ownBlock] using hv'
      subst this
      subst hn
      exact .inr ⟨g2, cap, cur, by simp, hg, (far g2 hgX).trans hh, by simpa using hle, by simpa using r⟩
  · have h1 : RC (w2.setCell ⟨X, 1, none⟩ v') t.args cs fp := RC_keep hRC fun x hx => SameB.of_heap ((far x (by have := hX x hx; omega)).trans (blk1 x hx))
    have h2 := RC_snoc h1 (t := ⟨k, []⟩) (c0 := .int .i64 k) (c1 := .slice none 0 0) (f := []) (by rw [RT]; exact ⟨rfl, hk, none, 0, rfl, Nat.le_refl _, by simp, .inl ⟨rfl, rfl⟩⟩)
    simpa using h2
  · rw [hv'] at hg'
    obtain rfl := Option.some.inj hg'
    rcases hat with h | h
    · exact hap g h hin
    · have := lt1 g hin
      simp at h
      omega

theorem Drew.over {p : Nat} {w w1 w2 : World} (hC : Cur w p) (hd : Drew p w w1) (hB : Below w.heap.size w1 w2) : Drew p w w2 := by
  have hp := hC.lt
  exact ⟨hd.1.keep fun b hb => hB.block b (by omega), hB.os.trans hd.2.os, hB.tape.trans hd.2.tape, hB.output.trans hd.2.output, Nat.le_trans hd.size hB.size, fun b hb hn => (hB.block b hb).trans (hd.2.block b hb hn), fun b o hb => (hB.frozen (p := ⟨b, o, none⟩) hb).trans (hd.2.frozen b o hb)⟩
theorem Drew.store {p : Nat} {w w1 : World} (hC : Cur w p) (hd : Drew p w w1) {q : Addr} (hq : w.heap.size ≤ q.block) (u : Value) : Drew p w (w1.setCell q u) :=
  Drew.over hC hd ((Below.refl _ _).setCell hq _)
theorem OwnTy.keep2 {base : Nat} {w w' : World} {t : Ty} {v : Value} (h : OwnTy base w t v) (hk : ∀ b, base ≤ b → b < w.heap.size → w'.heap[b]? = w.heap[b]?) : OwnTy base w' t v := by
  obtain ⟨hi, cs, fp, hown, hRC, hge, hap⟩ := h
  refine ⟨hi, cs, fp, ⟨hown.1, ?_⟩, RC_keep hRC fun b hb => SameB.of_heap (hk b (hge b hb) (RC_lt hRC b hb)), hge, hap⟩
  rcases hown.2 with hn | ⟨g, cap, cur, rfl, hg, hh, r⟩
  · exact .inl hn
  · exact .inr ⟨g, cap, cur, rfl, hg, (hk g hg (Array.getElem?_eq_some_iff.1 hh).1).trans hh, r⟩

theorem OwnTy.rd' {base : Nat} {w : World} {t : Ty} {a : Option Addr} {n c : Nat} (h : OwnTy base w t (.slice a n c)) : Rd w t (.int .i64 t.kind) (.slice a n c) := by
  obtain ⟨a', n', c', e, hr⟩ := h.rd
  rw [e]
  exact hr

set_option maxHeartbeats 3200000 in
theorem l3Bent_any (p : Nat) (w : World) (hC : Cur w p) : Calls Try.prog 36 #[.pointer (some ⟨p, 0, none⟩)] w (DrawsTy p 200 w) := by
  have hlt := hC.lt
  have d0 := Drew.alloc hC (.cells #[.int .i64 0, .slice none 0 0] 26)
  have B0 := Blk.new w 26 #[.int .i64 0, .slice none 0 0]
  have L := l3Draw_any p 4 (by omega) _ d0.cur
  rw [show (2 ^ 4 - 1 + (1 - 4) : Nat) = 15 by decide] at L
  obtain ⟨i0, hi, hz0, hz1, hz2⟩ := info_parts Try.infoType
  go_enter Try.func36, Try.ntmps36
  go_wp2_with fail
  refine L.mono ?_
  rintro e w1 ⟨t, v, rfl, ho, hs, d1⟩
  have D1 := d0.trans d1
  have R1 : Blk w1 w.heap.size _ _ := (d1.block B0.lt (by omega)).trans B0
  obtain ⟨va, vn, vc, rfl, hr⟩ := ho.rd
  have s1 := d1.size
  simp at s1
  have lR1 := R1.lt
  have DX := D1.trans (Drew.alloc D1.cur (.cells #[.int .i64 t.kind, .slice va vn vc] 26))
  have BX := Blk.new w1 26 #[.int .i64 t.kind, .slice va vn vc]
  have R2 := R1.alloc (.cells #[.int .i64 t.kind, .slice va vn vc] 26)
  go_wp2_with fail
  refine (l1Below_any p 10 _ DX.cur (by omega)).mono ?_
  rintro e w2 ⟨x, rfl, x0, -, d2⟩
  have D2 := DX.trans d2
  have s2 := d2.size
  simp at s2
  have BX2 : Blk w2 w1.heap.size _ _ := (d2.block BX.lt (by omega)).trans BX
  have R3 : Blk w2 w.heap.size _ _ := (d2.block R2.lt (by omega)).trans R2
  have ho2 := (ho.keep (Fresh.of_below (below_new w1 (.cells #[.int .i64 t.kind, .slice va vn vc] 26)))).keep (d2.fresh (by simp; omega))
  have lX := BX2.lt
  replace x0 := x0 (by omega)
  have x1 : (0 : Int) ≤ (x : Int) := by omega
  generalize (x : Int) = z at x0 x1 ⊢
  clear R1 R2 BX
  by_cases z0 : z = 0
  · subst z0
    obtain ⟨u0, u1⟩ := BX2.two
    have f0 := BX2.free 0
    go_wp2_with fail
    refine (l1Below_any p 6 _ D2.cur (by omega)).mono ?_
    rintro e w3 ⟨y, rfl, y0, -, d3⟩
    have D3 := D2.trans d3
    have BX3 : Blk w3 w1.heap.size _ _ := (d3.block BX2.lt (by omega)).trans BX2
    have R4 : Blk w3 w.heap.size _ _ := (d3.block R3.lt (by omega)).trans R3
    clear u0 u1 f0
    obtain ⟨u0, u1⟩ := BX3.two
    have f0 := BX3.free 0
    obtain ⟨q0, q1⟩ := R4.two
    have r0 := R4.free 0
    have r1 := R4.free 1
    have s3 := d3.size
    go_wp2_with fail
    have ho3 : OwnTy (w.heap.size + 1) (w3.setCell ⟨w1.heap.size, 0, none⟩ (.int .i64 (y : Int))) ⟨(y : Int), t.args⟩ (.slice va vn vc) :=
      OwnTy.kind (t := t) ((ho.base (by simp)).keep2 fun b hb hl => (Below.heap_setCell w3 ⟨w1.heap.size, 0, none⟩ _ b (by simp; omega)).trans ((d3.block (by omega) (by omega)).trans ((d2.block (by simp; omega) (by omega)).trans (Below.heap_alloc w1 _ b hl)))) ⟨by omega, by have := y0 (by omega); omega⟩
    refine bodyPost_ret (v := .agg #[.int .i64 (y : Int), .slice va vn vc]) (by simp [results, Try.results36, go_sem, q0, q1]) rfl
      (DrawsTy.mk (t := ⟨(y : Int), t.args⟩) rfl hC ho3 (by omega) (by have := t.size_eq; rw [Ty.size]; omega) (Drew.store hC D3 (q := ⟨w1.heap.size, 0, none⟩) (by simp; omega) _) (by simp [World.setCell]; omega))
  · by_cases z1 : z = 1
    · subst z1
      have g0 : ((1 : Int) == 0) = false := by decide
      obtain ⟨u0, u1⟩ := BX2.two
      obtain ⟨hki, cs, fp, hown, hRC, hge, hap⟩ := ho
      have hvl := hown.lt
      have hXf := RC_lt hRC
      have hown2 : w2.ownsRow (w.heap.size + 1) 26 2 (.slice va vn vc) t.args.length cs := own_fresh (own_fresh (by simpa using hown) (Fresh.of_below (below_new w1 (.cells #[.int .i64 t.kind, .slice va vn vc] 26)))) (d2.fresh (by omega))
      have hRC2 : RC w2 t.args cs fp := RC_keep hRC fun b hb => SameB.of_heap ((d2.block (by have := hXf b hb; simp; omega) (by have := hge b hb; simp at this; omega)).trans (Below.heap_alloc w1 _ b (hXf b hb)))
      obtain ⟨n, hnl⟩ : ∃ n, n = t.args.length := ⟨_, rfl⟩
      rw [← hnl] at hown2
      have hnb : n ≤ 100 := by have := Ty.length_le_sizes t.args; have := Ty.sizes_of_size hs; omega
      have HN := hide hnl
      have HRC := hide hRC2
      have HVL := hide hvl
      have HXF := hide hXf
      have HAP := hide hap
      have HGE := hide hge
      clear hnl hown hRC hRC2 hvl hXf hap hge ho2 hr g0
      go_wp2_with fail
      go_region_law (first
        | (go_simp; go_at_call 51; (with_reducible refine (l3Int_eq _).mono ?_); rintro e w3 ⟨rfl, b3⟩; replace b3 : Below w2.heap.size w2 w3 := below_next (below_drew _) b3; have s3 := b3.size; obtain ⟨y0, y1⟩ := (BX2.under b3).two; obtain ⟨y2, y3⟩ := (BX2.under b3).two_new)
        | (refine step_append_lies _ (by rfl) _ _ _ (by rfl) (w.heap.size + 1) 26 i0 _ 2 32 Try.underlying24 hi hz0 hz1 hz2 rfl (by omega) (.slice va vn vc) n cs (by rfl) ((own_below hown2 b3).alloc _) ⟨w3.heap.size, 0, none⟩ 1 1 [.int .i64 1, .slice none 0 0] (by rfl) (by rfl) (World.news_of_block (cs := #[.int .i64 1, .slice none 0 0]) (t := 26) (fr := (0, 0)) (heap_alloc_new w3 _)) (by simp [Value.oneCell']) (by omega) (by unfold maxLen; omega) (by omega) (by simp; omega) (w3.heap.size + 1) (by simp) ?_; intro gg cap' w4 hown4 hgrow hat hlt2
           have BX4 := (BX2.under b3).alloc (.cells #[.int .i64 1, .slice none 0 0] 26)
           have BX5 : Blk w4 w1.heap.size _ _ := BX4.grown hgrow (fun e => by have := (HVL.out _ e.symm).2; omega)
           obtain ⟨y4, y5⟩ := BX5.two
           have x0 := BX5.free 1
           have R5 : Blk w4 w.heap.size _ _ := ((R3.under b3).alloc (.cells #[.int .i64 1, .slice none 0 0] 26)).grown hgrow (fun e => by have := (HVL.out _ e.symm).1; simp at this; omega)
           obtain ⟨q0, q1⟩ := R5.two
           have r0 := R5.free 0
           have r1 := R5.free 1))
      all_goals
        have s4 := hgrow.size
        simp at s4
        have lR5 := R5.lt
        have lX5 := BX5.lt
        have ho4 := OwnTy.snoc (X := w1.heap.size) (k := 1) hki ⟨by omega, by omega⟩ HN.out hown2 HRC.out (fun b hb => by have := HGE.out b hb; simpa using this) HAP.out HXF.out (fun g hg => (HVL.out g hg).2) (by omega) (by omega) b3 hown4 hgrow rfl (by simpa using hat)
        have k4 : Drew p w w4 := Drew.over hC D2 (((b3.mono (by omega)).alloc (by omega) _).grown hgrow (by simp; omega) fun k hk => by have := (HVL.out k hk).1; simp at this; omega)
        go_wp2_with fail
        refine bodyPost_ret (v := .agg #[.int .i64 t.kind, .slice (some ⟨gg, 0, none⟩) (n + 1) cap']) (by simp [results, Try.results36, go_sem, q0, q1]) rfl
          (DrawsTy.mk (t := ⟨t.kind, t.args ++ [⟨1, []⟩]⟩) rfl hC (ho4.base (by simp)) (Nat.lt_succ_self _) (by have := t.size_eq; rw [Ty.size, Ty.sizes_append]; simp [Ty.sizes, Ty.size]; omega) (Drew.store hC k4 (q := ⟨w1.heap.size, 1, none⟩) (by simp; omega) _) (by simp [World.setCell]; omega))
    · by_cases z2 : z = 2
      · subst z2
        have g0 : ((2 : Int) == 0) = false := by decide
        have g1 : ((2 : Int) == 1) = false := by decide
        have hrX := (ho.keep2 (w' := w2) fun b hb hl => (d2.block (by simp; omega) (by simp at hb; omega)).trans (Below.heap_alloc w1 _ b hl))
        go_wp2_with fail
        refine (l1Below_any p 6 _ D2.cur (by omega)).mono ?_
        rintro e w3 ⟨y, rfl, y0, -, d3⟩
        have D3 := D2.trans d3
        have y0' : y < 6 := by have := y0 (by omega); omega
        have BX3 : Blk w3 w1.heap.size _ _ := (d3.block BX2.lt (by omega)).trans BX2
        have R4 : Blk w3 w.heap.size _ _ := (d3.block R3.lt (by omega)).trans R3
        have ho3 := (hrX.base (base' := w.heap.size + 1) (by simp)).keep (d3.fresh (by omega))
        have s3 := d3.size
        clear y0 g0 g1 hrX ho2 hr
        go_wp2_with fail
        go_loopw [5] (fun i wr => ∃ k : Nat, k ≤ y + 1 ∧ i = .int .i64 k ∧ (∃ (u : Ty) (a : Option Addr) (n c : Nat), Blk wr w1.heap.size 26 #[.int .i64 u.kind, .slice a n c] ∧ OwnTy (w.heap.size + 1) wr u (.slice a n c) ∧ u.size ≤ 15 + k) ∧ Blk wr w.heap.size 26 #[.int .i64 0, .slice none 0 0] ∧ Drew p w wr) (fun i _ => y + 1 - (intOf i).toNat)
        case atStart => exact ⟨0, by omega, rfl, ⟨t, va, vn, vc, BX3, ho3, by omega⟩, R4, D3⟩
        case round =>
          obtain ⟨k, hk, rfl, ⟨u, ua, un, uc, hX, hou, hsu⟩, hR, hD⟩ := hrel
          obtain ⟨x0, x1⟩ := hX.two
          have hru := hou.rd'
          have lX6 := hX.lt
          have lR6 := hR.lt
          by_cases hkn : k < y + 1
          · have hd : decide ((k : Int) < 1 + (y : Int)) = true := by simp; omega
            go_wp2_with fail
            refine (l3Code_any u _ _ _ hru (by have := Ty.sizes_of_size hsu; omega)).mono ?_
            rintro e w4 ⟨v4, rfl, ho4, b4⟩
            obtain ⟨ga, gn, gc, rfl, -⟩ := ho4.rd
            have hX4 := hX.under b4
            have hR4 := hR.under b4
            have D4 := hD.next b4
            clear x0 x1
            obtain ⟨x0, x1⟩ := hX4.two
            have f0 := hX4.free 0
            have f1 := hX4.free 1
            have s6 := b4.size
            go_wp2_with fail
            go_roundw
            case rel =>
              have hX5 := (hX4.set_ 0 (.int .i64 4)).set_ 1 (.slice ga gn gc)
              refine ⟨k + 1, by omega, by go_num, ⟨⟨4, [u]⟩, ga, gn, gc, by simpa using hX5, (ho4.keep ((Fresh.set_ (p := ⟨w1.heap.size, 0, none⟩) lX6 _).trans (Fresh.set_ (p := ⟨w1.heap.size, 1, none⟩) lX6 _))).base (by omega), ?_⟩,
                (hR4.far (p := ⟨w1.heap.size, 0, none⟩) (by simp; omega) _).far (p := ⟨w1.heap.size, 1, none⟩) (by simp; omega) _, Drew.store hC (Drew.store hC D4 (q := ⟨w1.heap.size, 0, none⟩) (by simp; omega) _) (q := ⟨w1.heap.size, 1, none⟩) (by simp; omega) _⟩
              rw [Ty.size_one]; omega
            case measure => simp [intOf]; omega
          · have hd : decide ((k : Int) < 1 + (y : Int)) = false := by simp; omega
            obtain ⟨q0, q1⟩ := hR.two
            have r0 := hR.free 0
            have r1 := hR.free 1
            go_wp2_with fail
            exact bodyPost_ret (v := .agg #[.int .i64 u.kind, .slice ua un uc]) (by simp [results, Try.results36, go_sem, q0, q1]) rfl (DrawsTy.mk (t := u) rfl hC hou (Nat.lt_succ_self _) (by omega) hD hR.lt)
      · have g0 : (z == 0) = false := by simpa using z0
        have g1 : (z == 1) = false := by simpa using z1
        have g2 : (z == 2) = false := by simpa using z2
        have hrX := (ho.keep2 (w' := w2) fun b hb hl => (d2.block (by simp; omega) (by simp at hb; omega)).trans (Below.heap_alloc w1 _ b hl))
        have ho3 := hrX.base (base' := w.heap.size + 1) (by simp)
        clear hrX ho2 hr
        by_cases z3 : z = 3
        · subst z3
          go_wp2_with fail
          clear g0 g1 g2
          go_loopw [6] (fun i wr => ∃ k : Nat, k ≤ 3 ∧ i = .int .i64 k ∧ (∃ (u : Ty) (a : Option Addr) (n c : Nat), Blk wr w1.heap.size 26 #[.int .i64 u.kind, .slice a n c] ∧ OwnTy (w.heap.size + 1) wr u (.slice a n c) ∧ u.size + 1 ≤ 16 * 2 ^ k) ∧ Blk wr w.heap.size 26 #[.int .i64 0, .slice none 0 0] ∧ Drew p w wr) (fun i _ => 3 - (intOf i).toNat)
          case atStart => exact ⟨0, by omega, rfl, ⟨t, va, vn, vc, BX2, ho3, by omega⟩, R3, D2⟩
          case round =>
            obtain ⟨k, hk, rfl, ⟨u, ua, un, uc, hX, hou, hsu⟩, hR, hD⟩ := hrel
            obtain ⟨x0, x1⟩ := hX.two
            have hru := hou.rd'
            have lX6 := hX.lt
            have lR6 := hR.lt
            by_cases hkn : k < 3
            · have hd : decide ((k : Int) < 3) = true := by simp; omega
              go_wp2_with fail
              refine (l3Fun_any u u _ _ _ _ _ hru hru (by have := u.size_eq; rcases (show k = 0 ∨ k = 1 ∨ k = 2 by omega) with rfl | rfl | rfl <;> omega) (by have := u.size_eq; rcases (show k = 0 ∨ k = 1 ∨ k = 2 by omega) with rfl | rfl | rfl <;> omega)).mono ?_
              rintro e w4 ⟨v4, rfl, ho4, b4⟩
              obtain ⟨ga, gn, gc, rfl, -⟩ := ho4.rd
              have hX4 := hX.under b4
              have hR4 := hR.under b4
              have D4 := hD.next b4
              clear x0 x1
              obtain ⟨x0, x1⟩ := hX4.two
              have f0 := hX4.free 0
              have f1 := hX4.free 1
              have s6 := b4.size
              go_wp2_with fail
              go_roundw
              case rel =>
                have hX5 := (hX4.set_ 0 (.int .i64 3)).set_ 1 (.slice ga gn gc)
                refine ⟨k + 1, by omega, by go_num, ⟨⟨3, [u, u]⟩, ga, gn, gc, by simpa using hX5, (ho4.keep ((Fresh.set_ (p := ⟨w1.heap.size, 0, none⟩) lX6 _).trans (Fresh.set_ (p := ⟨w1.heap.size, 1, none⟩) lX6 _))).base (by omega), ?_⟩,
                  (hR4.far (p := ⟨w1.heap.size, 0, none⟩) (by simp; omega) _).far (p := ⟨w1.heap.size, 1, none⟩) (by simp; omega) _, Drew.store hC (Drew.store hC D4 (q := ⟨w1.heap.size, 0, none⟩) (by simp; omega) _) (q := ⟨w1.heap.size, 1, none⟩) (by simp; omega) _⟩
                rw [Ty.size_two]; rcases (show k = 0 ∨ k = 1 ∨ k = 2 by omega) with rfl | rfl | rfl <;> omega
              case measure => simp [intOf]; omega
            · have hd : decide ((k : Int) < 3) = false := by simp; omega
              obtain ⟨q0, q1⟩ := hR.two
              have r0 := hR.free 0
              have r1 := hR.free 1
              go_wp2_with fail
              exact bodyPost_ret (v := .agg #[.int .i64 u.kind, .slice ua un uc]) (by simp [results, Try.results36, go_sem, q0, q1]) rfl (DrawsTy.mk (t := u) rfl hC hou (Nat.lt_succ_self _) (by rcases (show k = 3 by omega) with rfl; omega) hD hR.lt)
        · have g3 : (z == 3) = false := by simpa using z3
          obtain ⟨x0', x1'⟩ := BX2.two
          obtain ⟨q0, q1⟩ := R3.two
          have r0 := R3.free 0
          have r1 := R3.free 1
          go_wp2_with fail
          exact bodyPost_ret (v := .agg #[.int .i64 t.kind, .slice va vn vc]) (by simp [results, Try.results36, go_sem, q0, q1]) rfl (DrawsTy.mk (t := t) rfl hC ho3 (Nat.lt_succ_self _) (by omega) D2 R3.lt)
end Go.Proofs.Ytmdmnchnkfjpjaa

namespace Go.Proofs.Ytmdmnchnkfjpjaa
open Go.RowKit
set_option maxRecDepth 100000
set_option linter.unusedVariables false
set_option linter.unusedSimpArgs false

/-- What a draw of two types gives. -/
def DrawnTy2 (w : World) (e : Ending) (w' : World) : Prop := ∃ (t u : Ty) (a a' : Option Addr) (n c n' c' : Nat), e = .returned (.tuple #[.agg #[.int .i64 t.kind, .slice a n c], .agg #[.int .i64 u.kind, .slice a' n' c']]) ∧
  Rd w' t (.int .i64 t.kind) (.slice a n c) ∧ Rd w' u (.int .i64 u.kind) (.slice a' n' c') ∧ t.size ≤ 200 ∧ u.size ≤ 200 ∧ Below w.heap.size w w'
theorem four_stores {R S : Nat} {w : World} {a b c d : Value} (base : Nat) (hR : R < base) (hS : S < base) : Fresh base w ((((w.setCell ⟨R, 0, none⟩ a).setCell ⟨R, 1, none⟩ b).setCell ⟨S, 0, none⟩ c).setCell ⟨S, 1, none⟩ d) :=
  (((Fresh.set_ (p := ⟨R, 0, none⟩) hR _).trans (Fresh.set_ (p := ⟨R, 1, none⟩) hR _)).trans (Fresh.set_ (p := ⟨S, 0, none⟩) hS _)).trans (Fresh.set_ (p := ⟨S, 1, none⟩) hS _)
theorem RT.fresh {base : Nat} {w w' : World} {t : Ty} {c0 c1 : Value} {fp : List Nat} (h : RT w t c0 c1 fp) (hge : ∀ b ∈ fp, base ≤ b) (hF : Fresh base w w') : Rd w' t c0 c1 :=
  ⟨fp, RT.keep _ _ _ _ h fun b hb => SameB.of_heap (hF.2 b (hge b hb) (RT.lt _ _ _ _ h b hb))⟩
theorem below_four {B R S : Nat} {w w1 : World} {a b c d : Value} (h : Below B w w1) (hR : B ≤ R) (hS : B ≤ S) : Below B w ((((w1.setCell ⟨R, 0, none⟩ a).setCell ⟨R, 1, none⟩ b).setCell ⟨S, 0, none⟩ c).setCell ⟨S, 1, none⟩ d) :=
  (((h.setCell (p := ⟨R, 0, none⟩) hR _).setCell (p := ⟨R, 1, none⟩) hR _).setCell (p := ⟨S, 0, none⟩) hS _).setCell (p := ⟨S, 1, none⟩) hS _

theorem big_any (a : Option Addr) (n cap : Nat) (w : World) (hn : n ≤ 9223372036854775807) : Calls Try.prog 4 #[.slice a n cap] w fun e w' => e = .returned (.bool (decide ((n : Int) > 1048576))) ∧ w = w' := by
  go_enter Try.func4, Try.ntmps4
  go_wp2_with fail
  go_ret
  exact ⟨rfl, rfl⟩
end Go.Proofs.Ytmdmnchnkfjpjaa

namespace Go.Proofs.Ytmdmnchnkfjpjaa
open Go.RowKit
set_option maxRecDepth 100000
set_option linter.unusedVariables false
set_option linter.unusedSimpArgs false

/-- The cells of a row read as terms, nine cells each. -/
def RCM (w : World) : List Tm → List Value → List Nat → Prop
  | [], cs, fp => cs = [] ∧ fp = []
  | t :: ts, cs, fp => ∃ l rest f g, cs = tcells t l ++ rest ∧ fp = f ++ g ∧ RM w t l f ∧ RCM w ts rest g
theorem RCM_keep {w w' : World} : ∀ {ts : List Tm} {cs : List Value} {fp : List Nat}, RCM w ts cs fp → (∀ b ∈ fp, SameB w w' b) → RCM w' ts cs fp
  | [], _, _, h, _ => h
  | t :: ts, _, _, h, hs => by
    obtain ⟨l, rest, f, g, rfl, rfl, h1, h2⟩ := h
    exact ⟨l, rest, f, g, rfl, rfl, RM.keep _ _ _ h1 fun b hb => hs b (by simp [hb]), RCM_keep h2 fun b hb => hs b (by simp [hb])⟩
theorem RCM_lt {w : World} : ∀ {ts : List Tm} {cs : List Value} {fp : List Nat}, RCM w ts cs fp → ∀ b ∈ fp, b < w.heap.size
  | [], _, _, h, b, hb => by
    obtain ⟨_, rfl⟩ := h
    cases hb
  | t :: ts, _, _, h, b, hb => by
    obtain ⟨l, rest, f, g, rfl, rfl, h1, h2⟩ := h
    rcases List.mem_append.1 hb with hb | hb
    · exact RM.lt _ _ _ h1 b hb
    · exact RCM_lt h2 b hb
theorem RCM_snoc {w : World} {t : Tm} {l : Lt} {f : List Nat} : ∀ {ts : List Tm} {cs : List Value} {fp : List Nat}, RCM w ts cs fp → RM w t l f → RCM w (ts ++ [t]) (cs ++ tcells t l) (fp ++ f)
  | [], _, _, h, ht => by
    obtain ⟨rfl, rfl⟩ := h
    exact ⟨l, [], f, [], by simp, by simp, ht, rfl, rfl⟩
  | x :: xs, _, _, h, ht => by
    obtain ⟨l1, rest, f1, g, rfl, rfl, h1, h2⟩ := h
    exact ⟨l1, rest ++ tcells t l, f1, g ++ f, by simp, by simp, h1, RCM_snoc h2 ht⟩
theorem RCM_rms {w : World} : ∀ {ts : List Tm} {cs : List Value} {fp : List Nat} {b off : Nat}, RCM w ts cs fp → (∀ j u, cs[j]? = some u → w.cell? ⟨b, off + j, none⟩ = some u) → RMs w ts b off fp
  | [], _, _, _, _, h, _ => by
    obtain ⟨_, rfl⟩ := h
    rw [RMs]
  | t :: ts, _, _, b, off, h, hc => by
    obtain ⟨l, rest, f, g, rfl, rfl, h1, h2⟩ := h
    rw [RMs]
    refine ⟨l, f, g, rfl, fun i v hv => hc i v ?_, h1, RCM_rms h2 fun j u hu => ?_⟩
    · have hi : i < (tcells t l).length := by
        rcases Nat.lt_or_ge i (tcells t l).length with h | h
        · exact h
        · rw [List.getElem?_eq_none h] at hv
          cases hv
      rw [List.getElem?_append_left hi]
      exact hv
    · have := hc (9 + j) u (by
        rw [List.getElem?_append_right (by rw [tcells_len]; omega), tcells_len, show 9 + j - 9 = j by omega]
        exact hu)
      rwa [show off + (9 + j) = off + 9 + j by omega] at this
theorem RCM_len {w : World} : ∀ {ts : List Tm} {cs : List Value} {fp : List Nat}, RCM w ts cs fp → cs.length = ts.length * 9
  | [], _, _, h => by
    obtain ⟨rfl, _⟩ := h
    rfl
  | t :: ts, _, _, h => by
    obtain ⟨l, rest, f, g, rfl, _, _, h2⟩ := h
    have := RCM_len h2
    rw [List.length_append, tcells_len, List.length_cons]
    omega

/-- What holds of a term's own fields. -/
def Tm.fits (t : Tm) : Prop := i64 t.kind ∧ i64 t.n ∧ t.name.size ≤ 9223372036854775807 ∧ t.other.size ≤ 9223372036854775807
/-- A type that lies in blocks from 'base' on. -/
def TyAt (base : Nat) (w : World) (t : Ty) (a : Option Addr) (n c : Nat) (fp : List Nat) : Prop := RT w t (.int .i64 t.kind) (.slice a n c) fp ∧ ∀ b ∈ fp, base ≤ b
/-- Letters that read as a term in blocks from 'base' on, its parts in a row of one's own. -/
def OwnM (base : Nat) (w : World) (t : Tm) (l : Lt) : Prop := t.fits ∧
  ∃ cs f1 f2 f3, TyAt base w t.type l.ta l.tn l.tc f1 ∧ TyAt base w t.res l.ra l.rn l.rc f2 ∧ w.ownsRow base 29 9 (.slice l.aa l.an l.ac) t.args.length cs ∧ RCM w t.args cs f3 ∧ (∀ b ∈ f3, base ≤ b) ∧
    ∀ g, (Value.slice l.aa l.an l.ac).ownBlock = some g → g ∉ f1 ∧ g ∉ f2 ∧ g ∉ f3
theorem TyAt.fresh {base : Nat} {w w' : World} {t : Ty} {a : Option Addr} {n c : Nat} {fp : List Nat} (h : TyAt base w t a n c fp) (hk : Fresh base w w') : TyAt base w' t a n c fp :=
  ⟨RT.keep _ _ _ _ h.1 fun b hb => SameB.of_heap (hk.2 b (h.2 b hb) (RT.lt _ _ _ _ h.1 b hb)), h.2⟩
theorem OwnM.keep {base : Nat} {w w' : World} {t : Tm} {l : Lt} (h : OwnM base w t l) (hk : Fresh base w w') : OwnM base w' t l := by
  obtain ⟨hi, cs, f1, f2, f3, h1, h2, hown, h3, hge, hap⟩ := h
  exact ⟨hi, cs, f1, f2, f3, h1.fresh hk, h2.fresh hk, own_fresh hown hk, RCM_keep h3 fun b hb => SameB.of_heap (hk.2 b (hge b hb) (RCM_lt h3 b hb)), hge, hap⟩
theorem OwnM.base {base base' : Nat} {w : World} {t : Tm} {l : Lt} (h : OwnM base w t l) (hb : base' ≤ base) : OwnM base' w t l := by
  obtain ⟨hi, cs, f1, f2, f3, h1, h2, hown, h3, hge, hap⟩ := h
  refine ⟨hi, cs, f1, f2, f3, ⟨h1.1, fun b h => Nat.le_trans hb (h1.2 b h)⟩, ⟨h2.1, fun b h => Nat.le_trans hb (h2.2 b h)⟩, ⟨hown.1, ?_⟩, h3, fun b h => Nat.le_trans hb (hge b h), hap⟩
  rcases hown.2 with hn | ⟨g, cap, cur, hv, hg, hh, r⟩
  · exact .inl hn
  · exact .inr ⟨g, cap, cur, hv, Nat.le_trans hb hg, hh, r⟩
theorem OwnM.md {base : Nat} {w : World} {t : Tm} {l : Lt} (h : OwnM base w t l) : Md w t l := by
  obtain ⟨hi, cs, f1, f2, f3, h1, h2, hown, h3, hge, hap⟩ := h
  refine Md.mk hi ⟨f1, h1.1⟩ ⟨f2, h2.1⟩ ?_
  rcases hown.2 with ⟨hv, hn⟩ | ⟨g, cap, cur, hv, hg, hh, hle, hm, hsz, htk⟩
  · injection hv with q1 q2 q3
    rw [q1, q2, q3]
    exact ⟨hn.symm, Nat.le_refl _, by simp, .inl (List.length_eq_zero_iff.1 hn)⟩
  · have hR : RMs w t.args g 0 f3 := RCM_rms h3 fun j u hu => by
      have := hown.cells (g := g) (by rw [hv]; rfl) j u hu
      simpa [Addr.add_lit] using this
    injection hv with q1 q2 q3
    rw [q1, q2, q3]
    refine ⟨rfl, hle, hm, ?_⟩
    by_cases hx : t.args = []
    · exact .inl hx
    · exact .inr ⟨hx, g, 0, f3, rfl, hR⟩
theorem OwnM.len {base : Nat} {w : World} {t : Tm} {l : Lt} (h : OwnM base w t l) : l.an = t.args.length := h.md.shape.2.2.2.1
theorem TyAt.nil (base : Nat) (w : World) (k : Int) (hk : i64 k) : TyAt base w ⟨k, []⟩ none 0 0 [] := ⟨by rw [RT]; exact ⟨rfl, hk, none, 0, rfl, Nat.le_refl _, by simp, .inl ⟨rfl, rfl⟩⟩, by simp⟩
/-- The zero type. -/
def ty0 : Ty := ⟨0, []⟩
def lt0 : Lt := ⟨none, 0, 0, none, 0, 0, none, 0, 0⟩
/-- No parts, no types. -/
theorem OwnM.nil (base : Nat) (w : World) (k n : Int) (nm ot : ByteArray) (h : Tm.fits ⟨k, nm, ot, n, ty0, ty0, []⟩) : OwnM base w ⟨k, nm, ot, n, ty0, ty0, []⟩ lt0 :=
  ⟨h, [], [], [], [], TyAt.nil _ _ _ ⟨by omega, by omega⟩, TyAt.nil _ _ _ ⟨by omega, by omega⟩, ⟨rfl, .inl ⟨rfl, rfl⟩⟩, ⟨rfl, rfl⟩, by simp, by simp [Value.ownBlock, lt0]⟩
/-- Other fields of its own. -/
theorem OwnM.fields {base : Nat} {w : World} {t t' : Tm} {l : Lt} (h : OwnM base w t l) (hf : t'.fits) (h1 : t'.type = t.type) (h2 : t'.res = t.res) (h3 : t'.args = t.args) : OwnM base w t' l := by
  refine ⟨hf, ?_⟩
  rw [h1, h2, h3]
  exact h.2
/-- One part more, appended to the row of its parts; its box X is stored to. -/
theorem OwnM.snoc {base g X n : Nat} {t x : Tm} {l lx : Lt} {wr w1 w2 : World} {a' : Option Addr} {n' c' : Nat} {cs : List Value} {f1 f2 f3 fx : List Nat} {o : Obj} (hf : t.fits) (hn : n = t.args.length)
    (h1 : TyAt base wr t.type l.ta l.tn l.tc f1) (h2 : TyAt base wr t.res l.ra l.rn l.rc f2) (hown : wr.ownsRow base 29 9 (.slice l.aa l.an l.ac) n cs) (h3 : RCM wr t.args cs f3) (hge : ∀ b ∈ f3, base ≤ b)
    (hap : ∀ g, (Value.slice l.aa l.an l.ac).ownBlock = some g → g ∉ f1 ∧ g ∉ f2 ∧ g ∉ f3) (hX : X < base) (hbs : base ≤ wr.heap.size)
    (hF : Fresh base wr w1) (hx : RM w1 x lx fx) (hxf : ∀ b ∈ fx, wr.heap.size ≤ b) (hown2 : w2.ownsRow base 29 9 (.slice a' n' c') (n + 1) (cs ++ tcells x lx)) (hgrow : (w1.alloc o).grownBy w2 (Value.slice l.aa l.an l.ac).ownBlock)
    (hv' : (Value.slice a' n' c').ownBlock = some g) (hat : (Value.slice l.aa l.an l.ac).ownBlock = some g ∨ g = (w1.alloc o).heap.size) :
    OwnM base (w2.setCell ⟨X, 8, none⟩ (.slice a' n' c')) { t with args := t.args ++ [x] } { l with aa := a', an := n', ac := c' } := by
  have s1 := hF.1
  have hvl := hown.lt
  have lt1 : ∀ y ∈ f1, y < wr.heap.size := RT.lt _ _ _ _ h1.1
  have lt2 : ∀ y ∈ f2, y < wr.heap.size := RT.lt _ _ _ _ h2.1
  have lt3 : ∀ y ∈ f3, y < wr.heap.size := RCM_lt h3
  have ltx : ∀ y ∈ fx, y < w1.heap.size := RM.lt _ _ _ hx
  have far : ∀ y, base ≤ y → (w2.setCell ⟨X, 8, none⟩ (.slice a' n' c')).heap[y]? = w2.heap[y]? := fun y hy => Below.heap_setCell w2 ⟨X, 8, none⟩ (.slice a' n' c') y (by simp; omega)
  have old : ∀ y, base ≤ y → y < wr.heap.size → some y ≠ (Value.slice l.aa l.an l.ac).ownBlock → (w2.setCell ⟨X, 8, none⟩ (.slice a' n' c')).heap[y]? = wr.heap[y]? := fun y hy hlt hne => by
    rw [far y hy, hgrow.block y (by simp; omega) hne, Below.heap_alloc _ _ _ (by omega), hF.2 y hy hlt]
  have new : ∀ y ∈ fx, (w2.setCell ⟨X, 8, none⟩ (.slice a' n' c')).heap[y]? = w1.heap[y]? := fun y hy => by
    have q1 := hxf y hy
    have q2 := ltx y hy
    rw [far y (by omega), hgrow.block y (by simp; omega) (fun e => by have := (hvl y e.symm).2; omega), Below.heap_alloc _ _ _ q2]
  refine ⟨hf, cs ++ tcells x lx, f1, f2, f3 ++ fx, ⟨RT.keep _ _ _ _ h1.1 fun b hb => SameB.of_heap (old b (h1.2 b hb) (lt1 b hb) fun e => (hap b e.symm).1 hb), h1.2⟩,
    ⟨RT.keep _ _ _ _ h2.1 fun b hb => SameB.of_heap (old b (h2.2 b hb) (lt2 b hb) fun e => (hap b e.symm).2.1 hb), h2.2⟩, ?_, ?_, ?_, ?_⟩
  · have h := ownsRow_setCell_below hown2 (a := ⟨X, 8, none⟩) hX (.slice a' n' c')
    simpa [hn] using h
  · exact RCM_snoc (RCM_keep h3 fun b hb => SameB.of_heap (old b (hge b hb) (lt3 b hb) fun e => (hap b e.symm).2.2 hb)) (RM.keep _ _ _ hx fun b hb => SameB.of_heap (new b hb))
  · intro b hb
    rcases List.mem_append.1 hb with hb | hb
    · exact hge b hb
    · have := hxf b hb
      omega
  · intro g' hg'
    have e : g' = g := Option.some.inj (hg'.symm.trans hv')
    subst e
    rcases hat with h | h
    · have hl := hvl g' h
      obtain ⟨p1, p2, p3⟩ := hap g' h
      refine ⟨p1, p2, fun hin => ?_⟩
      rcases List.mem_append.1 hin with hin | hin
      · exact p3 hin
      · have := hxf g' hin
        omega
    · simp at h
      refine ⟨fun hin => ?_, fun hin => ?_, fun hin => ?_⟩
      · have := lt1 g' hin
        omega
      · have := lt2 g' hin
        omega
      · rcases List.mem_append.1 hin with hin | hin
        · have := lt3 g' hin
          omega
        · have := ltx g' hin
          omega
/-- What a call gives that makes a term. -/
def GivesM (w : World) (t : Tm) (e : Ending) (w' : World) : Prop := ∃ l, e = .returned (.agg #[.int .i64 t.kind, .string t.name, .string t.other, .int .i64 t.n, .int .i64 t.type.kind, .slice l.ta l.tn l.tc, .int .i64 t.res.kind, .slice l.ra l.rn l.rc, .slice l.aa l.an l.ac]) ∧ OwnM w.heap.size w' t l ∧ Below w.heap.size w w'
theorem OwnTy.tyAt {base : Nat} {w : World} {t : Ty} {a : Option Addr} {n c : Nat} (h : OwnTy base w t (.slice a n c)) : ∃ fp, TyAt base w t a n c fp := by
  obtain ⟨k, ts⟩ := t
  obtain ⟨hi, cs, fp, hown, hRC, hge, hap⟩ := h
  rcases hown.2 with ⟨hv, hn⟩ | ⟨g, cap, cur, hv, hg, hh, hle, hm, hsz, htk⟩
  · have : ts = [] := List.length_eq_zero_iff.1 hn
    subst this
    injection hv with q1 q2 q3
    subst q1 q2 q3
    exact ⟨[], TyAt.nil _ _ _ hi⟩
  · have hR : RTs w ts g 0 fp := RC_rts hRC fun j u hu => by
      have := hown.cells (g := g) (by rw [hv]; rfl) j u hu
      simpa [Addr.add_lit] using this
    injection hv with q1 q2 q3
    subst q1 q2 q3
    obtain ⟨fp', hT, h1, h2⟩ := RT_of_RTs (cap := c) hi hle hm hR
    refine ⟨fp', hT, fun b hb => ?_⟩
    by_cases hx : ts = []
    · rw [h2 hx] at hb
      cases hb
    · rw [h1 hx] at hb
      rcases List.mem_cons.1 hb with rfl | hb
      · exact hg
      · exact hge b hb
end Go.Proofs.Ytmdmnchnkfjpjaa

namespace Go.Proofs.Ytmdmnchnkfjpjaa
open Go.RowKit
set_option maxRecDepth 100000
set_option linter.unusedVariables false
set_option linter.unusedSimpArgs false

/-- A drawn term, its weight at most N. -/
def DrawsM (p N : Nat) (w : World) (e : Ending) (w' : World) : Prop := ∃ (t : Tm) (l : Lt), e = .returned (.agg #[.int .i64 t.kind, .string t.name, .string t.other, .int .i64 t.n, .int .i64 t.type.kind, .slice l.ta l.tn l.tc, .int .i64 t.res.kind, .slice l.ra l.rn l.rc, .slice l.aa l.an l.ac]) ∧ OwnM w.heap.size w' t l ∧ t.wt ≤ N ∧ Drew p w w'
/-- A block of nine cells, filled. -/
theorem put_box {w : World} {M T : Nat} {cs : Array Value} (h : Blk w M T cs) (hs : cs.size = 9) (t : Tm) (l : Lt) : Blk (putAt w M 0 (tcells t l)) M T #[.int .i64 t.kind, .string t.name, .string t.other, .int .i64 t.n, .int .i64 t.type.kind, .slice l.ta l.tn l.tc, .int .i64 t.res.kind, .slice l.ra l.rn l.rc, .slice l.aa l.an l.ac] := by
  obtain ⟨cs', h1, hB, h2, h3⟩ := putAt_blk (tcells t l) w 0 cs h
  have e : cs' = (tcells t l).toArray := by
    refine Array.ext (by rw [h1, hs]; rfl) fun i hi hi' => ?_
    have h9 : i < 9 := by rw [h1, hs] at hi; exact hi
    have h4 := h2 i (by rw [tcells_len]; exact h9) (by omega)
    rw [Nat.zero_add, Array.getElem?_eq_getElem hi, List.getElem?_eq_getElem (by rw [tcells_len]; exact h9)] at h4
    rw [Option.some.inj h4, List.getElem_toArray]
  rw [e] at hB
  exact hB
theorem putAt_heap {M b : Nat} (hb : b ≠ M) : ∀ (vs : List Value) (w : World) (o : Nat), (putAt w M o vs).heap[b]? = w.heap[b]?
  | [], w, o => rfl
  | v :: vs, w, o => (putAt_heap hb vs _ _).trans (Below.heap_setCell w ⟨M, o, none⟩ v b hb)
theorem putAt_size {M : Nat} : ∀ (vs : List Value) (w : World) (o : Nat), (putAt w M o vs).heap.size = w.heap.size
  | [], w, o => rfl
  | v :: vs, w, o => (putAt_size vs _ _).trans (show (w.setCell ⟨M, o, none⟩ v).heap.size = w.heap.size by simp [World.setCell])
theorem putAt_fresh {M base : Nat} (hb : M < base) (vs : List Value) (w : World) (o : Nat) : Fresh base w (putAt w M o vs) :=
  ⟨Nat.le_of_eq (putAt_size vs w o).symm, fun b h1 _ => putAt_heap (by omega) vs w o⟩
theorem Drew.put {p M : Nat} {w w1 : World} (hC : Cur w p) (hd : Drew p w w1) (hM : w.heap.size ≤ M) (vs : List Value) (o : Nat) : Drew p w (putAt w1 M o vs) := by
  induction vs generalizing w1 o with
  | nil => exact hd
  | cons v vs ih => exact ih (Drew.over hC hd ((Below.refl _ _).setCell (p := ⟨M, o, none⟩) hM v)) _
/-- Behind a store into one's own result block. -/
theorem DrawsM.mk {p N R : Nat} {w w1 : World} {t : Tm} {l : Lt} {base : Nat} (hR : w.heap.size = R) (hC : Cur w p) (ho : OwnM base w1 t l) (hb : R < base) (hs : t.wt ≤ N) (hd : Drew p w w1) :
    DrawsM p N w (.returned (.agg #[.int .i64 t.kind, .string t.name, .string t.other, .int .i64 t.n, .int .i64 t.type.kind, .slice l.ta l.tn l.tc, .int .i64 t.res.kind, .slice l.ra l.rn l.rc, .slice l.aa l.an l.ac])) (putAt w1 R 0 (tcells t l)) := by
  subst hR
  exact ⟨t, l, rfl, (ho.keep (putAt_fresh hb _ _ _)).base (by omega), hs, Drew.put hC hd (Nat.le_refl _) _ _⟩

/-- A term without parts. -/
def leafM (k n : Int) (nm : ByteArray) : Tm := ⟨k, nm, ⟨#[]⟩, n, ty0, ty0, []⟩
theorem leafM_wt (k n : Int) (nm : ByteArray) : (leafM k n nm).wt = nm.size := by
  rw [leafM, Tm.wt, Tm.wts, ty0]
  show nm.size + (ByteArray.mk #[]).size + Ty.sizes [] + Ty.sizes [] + 0 = nm.size
  rw [Ty.sizes]
  rfl
theorem leafM_own (base : Nat) (w : World) {k n : Int} {nm : ByteArray} (hk : i64 k) (hn : i64 n) (hs : nm.size ≤ 9223372036854775807) : OwnM base w (leafM k n nm) lt0 := OwnM.nil base w k n nm ⟨#[]⟩ ⟨hk, hn, hs, by simp [ByteArray.size]⟩
theorem l5Var_eq (a : ByteArray) (w : World) : Calls Try.prog 35 #[.string a] w fun e w' => e = .returned (.agg #[.int .i64 1, .string a, .string ⟨#[]⟩, .int .i64 0, .int .i64 0, .slice none 0 0, .int .i64 0, .slice none 0 0, .slice none 0 0]) ∧ Below w.heap.size w w' := by
  go_enter Try.func35, Try.ntmps35
  go_wp2_with fail
  exact bodyPost_ret (v := .agg #[.int .i64 1, .string a, .string ⟨#[]⟩, .int .i64 0, .int .i64 0, .slice none 0 0, .int .i64 0, .slice none 0 0, .slice none 0 0]) (by simp [results, Try.results35, go_sem]) rfl ⟨rfl, below_new _ _⟩
theorem l5Int_eq (a : Int) (w : World) : Calls Try.prog 63 #[.int .i64 a] w fun e w' => e = .returned (.agg #[.int .i64 2, .string ⟨#[]⟩, .string ⟨#[]⟩, .int .i64 a, .int .i64 0, .slice none 0 0, .int .i64 0, .slice none 0 0, .slice none 0 0]) ∧ Below w.heap.size w w' := by
  go_enter Try.func63, Try.ntmps63
  go_wp2_with fail
  exact bodyPost_ret (v := .agg #[.int .i64 2, .string ⟨#[]⟩, .string ⟨#[]⟩, .int .i64 a, .int .i64 0, .slice none 0 0, .int .i64 0, .slice none 0 0, .slice none 0 0]) (by simp [results, Try.results63, go_sem]) rfl ⟨rfl, below_new _ _⟩
theorem l5Bool_eq (a : Int) (w : World) : Calls Try.prog 64 #[.int .i64 a] w fun e w' => e = .returned (.agg #[.int .i64 3, .string ⟨#[]⟩, .string ⟨#[]⟩, .int .i64 a, .int .i64 0, .slice none 0 0, .int .i64 0, .slice none 0 0, .slice none 0 0]) ∧ Below w.heap.size w w' := by
  go_enter Try.func64, Try.ntmps64
  go_wp2_with fail
  exact bodyPost_ret (v := .agg #[.int .i64 3, .string ⟨#[]⟩, .string ⟨#[]⟩, .int .i64 a, .int .i64 0, .slice none 0 0, .int .i64 0, .slice none 0 0, .slice none 0 0]) (by simp [results, Try.results64, go_sem]) rfl ⟨rfl, below_new _ _⟩
theorem ints5 : ∀ j (hj : j < (#[Value.int .i64 0, .int .i64 1, .int .i64 2, .int .i64 3, .int .i64 10006] : Array Value).size), ∃ z : Int, (#[Value.int .i64 0, .int .i64 1, .int .i64 2, .int .i64 3, .int .i64 10006] : Array Value)[j] = .int .i64 z ∧ i64 z := by
  intro j hj
  match j, hj with
  | 0, _ => exact ⟨0, rfl, by simp [i64]⟩
  | 1, _ => exact ⟨1, rfl, by simp [i64]⟩
  | 2, _ => exact ⟨2, rfl, by simp [i64]⟩
  | 3, _ => exact ⟨3, rfl, by simp [i64]⟩
  | 4, _ => exact ⟨10006, rfl, by simp [i64]⟩
  | n + 5, h => simp at h; omega
theorem strsXYF : ∀ j (hj : j < (#[Value.string ⟨#[120]⟩, .string ⟨#[121]⟩, .string ⟨#[102]⟩] : Array Value).size), ∃ z : ByteArray, (#[Value.string ⟨#[120]⟩, .string ⟨#[121]⟩, .string ⟨#[102]⟩] : Array Value)[j] = .string z ∧ z.size ≤ 1000 := by
  intro j hj
  match j, hj with
  | 0, _ => exact ⟨_, rfl, by simp [ByteArray.size]⟩
  | 1, _ => exact ⟨_, rfl, by simp [ByteArray.size]⟩
  | 2, _ => exact ⟨_, rfl, by simp [ByteArray.size]⟩
  | n + 3, h => simp at h; omega

set_option maxHeartbeats 3200000 in
theorem l5Leaf_any (p : Nat) (w : World) (hC : Cur w p) : Calls Try.prog 49 #[.pointer (some ⟨p, 0, none⟩)] w (DrawsM p 1000 w) := by
  have hlt := hC.lt
  have B0 := Blk.new w 29 #[.int .i64 0, .string ⟨#[]⟩, .string ⟨#[]⟩, .int .i64 0, .int .i64 0, .slice none 0 0, .int .i64 0, .slice none 0 0, .slice none 0 0]
  have d0 := Drew.alloc hC (.cells #[.int .i64 0, .string ⟨#[]⟩, .string ⟨#[]⟩, .int .i64 0, .int .i64 0, .slice none 0 0, .int .i64 0, .slice none 0 0, .slice none 0 0] 29)
  go_enter Try.func49, Try.ntmps49
  go_wp2_with fail
  refine (l1Below_any p 4 _ d0.cur (by omega)).mono ?_
  rintro e w1 ⟨x, rfl, x0, x1, d1⟩
  have D1 := d0.trans d1
  have B1 : Blk w1 w.heap.size _ _ := (d1.block B0.lt (by omega)).trans B0
  have lC1 := D1.cur.lt
  by_cases c0 : x = 0
  · subst c0
    go_wp2_with fail
    have D2 := D1.trans (Drew.alloc D1.cur (.cells #[.int .i64 0, .int .i64 1, .int .i64 2, .int .i64 3, .int .i64 10006] 3))
    refine (l1PickInt_any p w1.heap.size 5 3 _ _ D2.cur (Blk.new w1 _ _) lC1 rfl (by omega) (by omega) ints5).mono ?_
    rintro e w2 ⟨z, rfl, hz, -, d3⟩
    have D3 := D2.trans d3
    have B3 : Blk w2 w.heap.size _ _ := (d3.block (by have := B1.lt; simp; omega) (by omega)).trans (B1.alloc _)
    go_wp2_with fail
    refine (l5Int_eq z w2).mono ?_
    rintro e w3 ⟨rfl, b3⟩
    have B4 := B3.under b3
    have D4 := D3.next b3
    obtain ⟨q0, q1, q2, q3, q4, q5, q6, q7, q8⟩ : _ ∧ _ ∧ _ ∧ _ ∧ _ ∧ _ ∧ _ ∧ _ ∧ _ := ⟨B4.cell 0, B4.cell 1, B4.cell 2, B4.cell 3, B4.cell 4, B4.cell 5, B4.cell 6, B4.cell 7, B4.cell 8⟩
    simp at q0 q1 q2 q3 q4 q5 q6 q7 q8
    obtain ⟨z0, z1, z2, z3, z4, z5, z6, z7, z8⟩ : _ ∧ _ ∧ _ ∧ _ ∧ _ ∧ _ ∧ _ ∧ _ ∧ _ := ⟨B4.free 0, B4.free 1, B4.free 2, B4.free 3, B4.free 4, B4.free 5, B4.free 6, B4.free 7, B4.free 8⟩
    go_wp2_with fail
    obtain ⟨W, hW⟩ : ∃ W, W = putAt w3 w.heap.size 0 (tcells (leafM 2 z ⟨#[]⟩) lt0) := ⟨_, rfl⟩
    have HB := (put_box B4 rfl (leafM 2 z ⟨#[]⟩) lt0).nine
    have HD := DrawsM.mk (N := 1000) rfl hC (leafM_own (w.heap.size + 1) w3 (k := 2) (n := z) (nm := ⟨#[]⟩) (by simp [i64]) hz (by simp [ByteArray.size])) (by omega) (by rw [leafM_wt]; exact Nat.zero_le _) D4
    rw [← hW] at HB HD
    rw [putAt_zero] at hW
    dsimp only [leafM, lt0, ty0] at hW HB
    rw [← hW]
    obtain ⟨r0, r1, r2, r3, r4, r5, r6, r7, r8⟩ := HB
    refine bodyPost_ret (v := .agg #[.int .i64 (leafM 2 z ⟨#[]⟩).kind, .string (leafM 2 z ⟨#[]⟩).name, .string (leafM 2 z ⟨#[]⟩).other, .int .i64 (leafM 2 z ⟨#[]⟩).n, .int .i64 (leafM 2 z ⟨#[]⟩).type.kind, .slice lt0.ta lt0.tn lt0.tc, .int .i64 (leafM 2 z ⟨#[]⟩).res.kind, .slice lt0.ra lt0.rn lt0.rc, .slice lt0.aa lt0.an lt0.ac]) ?_ rfl HD
    simp [results, Try.results49, go_sem, r0, r1, r2, r3, r4, r5, r6, r7, r8, leafM, lt0, ty0]
  · by_cases c1 : x = 1
    · subst c1
      go_wp2_with fail
      refine (l1Below_any p 2 _ D1.cur (by omega)).mono ?_
      rintro e w2 ⟨z, rfl, hz, hz4, d3⟩
      have D3 := D1.trans d3
      have B3 : Blk w2 w.heap.size _ _ := (d3.block B1.lt (by omega)).trans B1
      go_wp2_with fail
      refine (l5Bool_eq (z : Int) w2).mono ?_
      rintro e w3 ⟨rfl, b3⟩
      have B4 := B3.under b3
      have D4 := D3.next b3
      obtain ⟨q0, q1, q2, q3, q4, q5, q6, q7, q8⟩ : _ ∧ _ ∧ _ ∧ _ ∧ _ ∧ _ ∧ _ ∧ _ ∧ _ := ⟨B4.cell 0, B4.cell 1, B4.cell 2, B4.cell 3, B4.cell 4, B4.cell 5, B4.cell 6, B4.cell 7, B4.cell 8⟩
      simp at q0 q1 q2 q3 q4 q5 q6 q7 q8
      obtain ⟨z0, z1, z2, z3, z4, z5, z6, z7, z8⟩ : _ ∧ _ ∧ _ ∧ _ ∧ _ ∧ _ ∧ _ ∧ _ ∧ _ := ⟨B4.free 0, B4.free 1, B4.free 2, B4.free 3, B4.free 4, B4.free 5, B4.free 6, B4.free 7, B4.free 8⟩
      go_wp2_with fail
      obtain ⟨W, hW⟩ : ∃ W, W = putAt w3 w.heap.size 0 (tcells (leafM 3 (z : Int) ⟨#[]⟩) lt0) := ⟨_, rfl⟩
      have HB := (put_box B4 rfl (leafM 3 (z : Int) ⟨#[]⟩) lt0).nine
      have HD := DrawsM.mk (N := 1000) rfl hC (leafM_own (w.heap.size + 1) w3 (k := 3) (n := (z : Int)) (nm := ⟨#[]⟩) (by simp [i64]) ⟨by omega, by omega⟩ (by simp [ByteArray.size])) (by omega) (by rw [leafM_wt]; exact Nat.zero_le _) D4
      rw [← hW] at HB HD
      rw [putAt_zero] at hW
      dsimp only [leafM, lt0, ty0] at hW HB
      rw [← hW]
      obtain ⟨r0, r1, r2, r3, r4, r5, r6, r7, r8⟩ := HB
      refine bodyPost_ret (v := .agg #[.int .i64 (leafM 3 (z : Int) ⟨#[]⟩).kind, .string (leafM 3 (z : Int) ⟨#[]⟩).name, .string (leafM 3 (z : Int) ⟨#[]⟩).other, .int .i64 (leafM 3 (z : Int) ⟨#[]⟩).n, .int .i64 (leafM 3 (z : Int) ⟨#[]⟩).type.kind, .slice lt0.ta lt0.tn lt0.tc, .int .i64 (leafM 3 (z : Int) ⟨#[]⟩).res.kind, .slice lt0.ra lt0.rn lt0.rc, .slice lt0.aa lt0.an lt0.ac]) ?_ rfl HD
      simp [results, Try.results49, go_sem, r0, r1, r2, r3, r4, r5, r6, r7, r8, leafM, lt0, ty0]
    · have g0 : ((x : Int) == 0) = false := by simp; omega
      have g1 : ((x : Int) == 1) = false := by simp; omega
      go_wp2_with fail
      have D2 := D1.trans (Drew.alloc D1.cur (.cells #[.string ⟨#[120]⟩, .string ⟨#[121]⟩, .string ⟨#[102]⟩] 9))
      refine (l1Pick_any p w1.heap.size 3 9 _ _ D2.cur (Blk.new w1 _ _) lC1 rfl (by omega) (by omega) strsXYF).mono ?_
      rintro e w2 ⟨z, rfl, hz, -, d3⟩
      have D3 := D2.trans d3
      have B3 : Blk w2 w.heap.size _ _ := (d3.block (by have := B1.lt; simp; omega) (by omega)).trans (B1.alloc _)
      go_wp2_with fail
      refine (l5Var_eq z w2).mono ?_
      rintro e w3 ⟨rfl, b3⟩
      have B4 := B3.under b3
      have D4 := D3.next b3
      obtain ⟨q0, q1, q2, q3, q4, q5, q6, q7, q8⟩ : _ ∧ _ ∧ _ ∧ _ ∧ _ ∧ _ ∧ _ ∧ _ ∧ _ := ⟨B4.cell 0, B4.cell 1, B4.cell 2, B4.cell 3, B4.cell 4, B4.cell 5, B4.cell 6, B4.cell 7, B4.cell 8⟩
      simp at q0 q1 q2 q3 q4 q5 q6 q7 q8
      obtain ⟨z0, z1, z2, z3, z4, z5, z6, z7, z8⟩ : _ ∧ _ ∧ _ ∧ _ ∧ _ ∧ _ ∧ _ ∧ _ ∧ _ := ⟨B4.free 0, B4.free 1, B4.free 2, B4.free 3, B4.free 4, B4.free 5, B4.free 6, B4.free 7, B4.free 8⟩
      go_wp2_with fail
      obtain ⟨W, hW⟩ : ∃ W, W = putAt w3 w.heap.size 0 (tcells (leafM 1 0 z) lt0) := ⟨_, rfl⟩
      have HB := (put_box B4 rfl (leafM 1 0 z) lt0).nine
      have HD := DrawsM.mk (N := 1000) rfl hC (leafM_own (w.heap.size + 1) w3 (k := 1) (n := 0) (nm := z) (by simp [i64]) (by simp [i64]) (by omega)) (by omega) (by rw [leafM_wt]; exact hz) D4
      rw [← hW] at HB HD
      rw [putAt_zero] at hW
      dsimp only [leafM, lt0, ty0] at hW HB
      rw [← hW]
      obtain ⟨r0, r1, r2, r3, r4, r5, r6, r7, r8⟩ := HB
      refine bodyPost_ret (v := .agg #[.int .i64 (leafM 1 0 z).kind, .string (leafM 1 0 z).name, .string (leafM 1 0 z).other, .int .i64 (leafM 1 0 z).n, .int .i64 (leafM 1 0 z).type.kind, .slice lt0.ta lt0.tn lt0.tc, .int .i64 (leafM 1 0 z).res.kind, .slice lt0.ra lt0.rn lt0.rc, .slice lt0.aa lt0.an lt0.ac]) ?_ rfl HD
      simp [results, Try.results49, go_sem, r0, r1, r2, r3, r4, r5, r6, r7, r8, leafM, lt0, ty0]
end Go.Proofs.Ytmdmnchnkfjpjaa

namespace Go.Proofs.Ytmdmnchnkfjpjaa
open Go.RowKit
set_option maxRecDepth 100000
set_option linter.unusedVariables false
set_option linter.unusedSimpArgs false

/-- Block X is the box of a term being made; all that it reaches lies from 'base' on, nowhere in the box. -/
def LaidM (X base : Nat) (w : World) (t : Tm) (l : Lt) : Prop := base ≤ X ∧ Blk w X 29 #[.int .i64 t.kind, .string t.name, .string t.other, .int .i64 t.n, .int .i64 t.type.kind, .slice l.ta l.tn l.tc, .int .i64 t.res.kind, .slice l.ra l.rn l.rc, .slice l.aa l.an l.ac] ∧ t.fits ∧
  ∃ cs f1 f2 f3, TyAt base w t.type l.ta l.tn l.tc f1 ∧ TyAt base w t.res l.ra l.rn l.rc f2 ∧ w.ownsRow base 29 9 (.slice l.aa l.an l.ac) t.args.length cs ∧ RCM w t.args cs f3 ∧ (∀ b ∈ f3, base ≤ b ∧ b ≠ X) ∧ X ∉ f1 ∧ X ∉ f2 ∧
    ∀ g, (Value.slice l.aa l.an l.ac).ownBlock = some g → g ≠ X ∧ g ∉ f1 ∧ g ∉ f2 ∧ g ∉ f3
theorem LaidM.box {X base : Nat} {w : World} {t : Tm} {l : Lt} (h : LaidM X base w t l) : Blk w X 29 #[.int .i64 t.kind, .string t.name, .string t.other, .int .i64 t.n, .int .i64 t.type.kind, .slice l.ta l.tn l.tc, .int .i64 t.res.kind, .slice l.ra l.rn l.rc, .slice l.aa l.an l.ac] := h.2.1
theorem LaidM.lt {X base : Nat} {w : World} {t : Tm} {l : Lt} (h : LaidM X base w t l) : X < w.heap.size := h.2.1.lt
theorem LaidM.own {X base : Nat} {w : World} {t : Tm} {l : Lt} (h : LaidM X base w t l) : OwnM base w t l := by
  obtain ⟨hbX, hB, hf, cs, f1, f2, f3, h1, h2, hown, h3, hX3, hX1, hX2, hap⟩ := h
  exact ⟨hf, cs, f1, f2, f3, h1, h2, hown, h3, fun b hb => (hX3 b hb).1, fun g hg => (hap g hg).2⟩
theorem LaidM.keep {X base : Nat} {w w' : World} {t : Tm} {l : Lt} (h : LaidM X base w t l) (hk : Fresh base w w') : LaidM X base w' t l := by
  obtain ⟨hbX, hB, hf, cs, f1, f2, f3, h1, h2, hown, h3, hX3, hX1, hX2, hap⟩ := h
  exact ⟨hbX, (hk.2 X hbX hB.lt).trans hB, hf, cs, f1, f2, f3, h1.fresh hk, h2.fresh hk, own_fresh hown hk, RCM_keep h3 fun b hb => SameB.of_heap (hk.2 b (hX3 b hb).1 (RCM_lt h3 b hb)), hX3, hX1, hX2, hap⟩
/-- A box that has just been made: no parts, no types. -/
theorem LaidM.new {X base : Nat} {w : World} {t : Tm} (hb : base ≤ X) (hB : Blk w X 29 #[.int .i64 t.kind, .string t.name, .string t.other, .int .i64 t.n, .int .i64 t.type.kind, .slice lt0.ta lt0.tn lt0.tc, .int .i64 t.res.kind, .slice lt0.ra lt0.rn lt0.rc, .slice lt0.aa lt0.an lt0.ac]) (hf : t.fits) (h1 : t.type = ty0) (h2 : t.res = ty0) (h3 : t.args = []) : LaidM X base w t lt0 := by
  refine ⟨hb, hB, hf, [], [], [], [], ?_, ?_, ?_, ?_, by simp, by simp, by simp, by simp [Value.ownBlock, lt0]⟩
  · rw [h1]
    exact TyAt.nil _ _ _ ⟨by omega, by omega⟩
  · rw [h2]
    exact TyAt.nil _ _ _ ⟨by omega, by omega⟩
  · rw [h3]
    exact ⟨rfl, .inl ⟨rfl, rfl⟩⟩
  · rw [h3]
    exact ⟨rfl, rfl⟩
/-- A box without parts, its types known. -/
theorem LaidM.made {S base : Nat} {w : World} {t : Tm} {l : Lt} {f1 f2 : List Nat} (hb : base ≤ S) (hB : Blk w S 29 #[.int .i64 t.kind, .string t.name, .string t.other, .int .i64 t.n, .int .i64 t.type.kind, .slice l.ta l.tn l.tc, .int .i64 t.res.kind, .slice l.ra l.rn l.rc, .slice l.aa l.an l.ac]) (hf : t.fits) (h3 : t.args = []) (hl : Value.slice l.aa l.an l.ac = .slice none 0 0)
    (h1 : TyAt base w t.type l.ta l.tn l.tc f1) (h2 : TyAt base w t.res l.ra l.rn l.rc f2) (hS1 : S ∉ f1) (hS2 : S ∉ f2) : LaidM S base w t l := by
  refine ⟨hb, hB, hf, [], f1, f2, [], h1, h2, ?_, ?_, by simp, hS1, hS2, fun g hg => ?_⟩
  · rw [h3, hl]
    exact ⟨rfl, .inl ⟨rfl, rfl⟩⟩
  · rw [h3]
    exact ⟨rfl, rfl⟩
  · rw [hl] at hg
    simp [Value.ownBlock] at hg
theorem TyAt.put {S base : Nat} {w : World} {u : Ty} {a : Option Addr} {n c : Nat} {fp : List Nat} (h : TyAt base w u a n c fp) (hS : S ∉ fp) (vs : List Value) (o : Nat) : TyAt base (putAt w S o vs) u a n c fp :=
  ⟨RT.keep _ _ _ _ h.1 fun b hb => putAt_same (M := S) (b := b) (fun e => hS (by rw [← e]; exact hb)) vs w o, h.2⟩
theorem LaidM.put {S base : Nat} {w : World} {t : Tm} {l : Lt} {f1 f2 : List Nat} {cs : Array Value} (hb : base ≤ S) (hB : Blk w S 29 cs) (h9 : cs.size = 9) (hf : t.fits) (h3 : t.args = []) (hl : Value.slice l.aa l.an l.ac = .slice none 0 0)
    (h1 : TyAt base w t.type l.ta l.tn l.tc f1) (h2 : TyAt base w t.res l.ra l.rn l.rc f2) (hS1 : S ∉ f1) (hS2 : S ∉ f2) : LaidM S base (putAt w S 0 (tcells t l)) t l :=
  LaidM.made hb (put_box hB h9 t l) hf h3 hl (h1.put hS1 _ _) (h2.put hS2 _ _) hS1 hS2
theorem Blk.put {S T X : Nat} {w : World} {cs : Array Value} (h : Blk w X T cs) (hX : X ≠ S) (vs : List Value) (o : Nat) : Blk (putAt w S o vs) X T cs := (putAt_heap hX vs w o).trans h
/-- The box stored to, nothing else: what is known of the rest stays. -/
theorem LaidM.fields {X base : Nat} {w w' : World} {t t' : Tm} {l : Lt} (h : LaidM X base w t l) (hB : Blk w' X 29 #[.int .i64 t'.kind, .string t'.name, .string t'.other, .int .i64 t'.n, .int .i64 t'.type.kind, .slice l.ta l.tn l.tc, .int .i64 t'.res.kind, .slice l.ra l.rn l.rc, .slice l.aa l.an l.ac]) (hk : ∀ b, b ≠ X → w'.heap[b]? = w.heap[b]?) (hf : t'.fits) (e1 : t'.type = t.type) (e2 : t'.res = t.res) (e3 : t'.args = t.args) :
    LaidM X base w' t' l := by
  obtain ⟨hbX, -, -, cs, f1, f2, f3, h1, h2, hown, h3, hX3, hX1, hX2, hap⟩ := h
  refine ⟨hbX, hB, hf, cs, f1, f2, f3, ?_, ?_, ?_, ?_, hX3, hX1, hX2, hap⟩
  · rw [e1]
    exact ⟨RT.keep _ _ _ _ h1.1 fun b hb => SameB.of_heap (hk b fun e => hX1 (e ▸ hb)), h1.2⟩
  · rw [e2]
    exact ⟨RT.keep _ _ _ _ h2.1 fun b hb => SameB.of_heap (hk b fun e => hX2 (e ▸ hb)), h2.2⟩
  · rw [e3]
    refine ⟨hown.1, ?_⟩
    rcases hown.2 with hn | ⟨g, cap, cur, hv, hg, hh, r⟩
    · exact .inl hn
    · exact .inr ⟨g, cap, cur, hv, hg, (hk g (hap g (by rw [hv]; rfl)).1).trans hh, r⟩
  · rw [e3]
    exact RCM_keep h3 fun b hb => SameB.of_heap (hk b (hX3 b hb).2)
theorem LaidM.name {X base : Nat} {w : World} {t : Tm} {l : Lt} (h : LaidM X base w t l) (s : ByteArray) (hs : s.size ≤ 9223372036854775807) : LaidM X base (w.setCell ⟨X, 1, none⟩ (.string s)) { t with name := s } l :=
  h.fields (h.box.set_ 1 (.string s)) (fun b hb => Below.heap_setCell w ⟨X, 1, none⟩ _ b hb) ⟨h.2.2.1.1, h.2.2.1.2.1, hs, h.2.2.1.2.2.2⟩ rfl rfl rfl
theorem LaidM.other {X base : Nat} {w : World} {t : Tm} {l : Lt} (h : LaidM X base w t l) (s : ByteArray) (hs : s.size ≤ 9223372036854775807) : LaidM X base (w.setCell ⟨X, 2, none⟩ (.string s)) { t with other := s } l :=
  h.fields (h.box.set_ 2 (.string s)) (fun b hb => Below.heap_setCell w ⟨X, 2, none⟩ _ b hb) ⟨h.2.2.1.1, h.2.2.1.2.1, h.2.2.1.2.2.1, hs⟩ rfl rfl rfl
theorem LaidM.kind {X base : Nat} {w : World} {t : Tm} {l : Lt} (h : LaidM X base w t l) (k : Int) (hk : i64 k) : LaidM X base (w.setCell ⟨X, 0, none⟩ (.int .i64 k)) { t with kind := k } l :=
  h.fields (h.box.set_ 0 (.int .i64 k)) (fun b hb => Below.heap_setCell w ⟨X, 0, none⟩ _ b hb) ⟨hk, h.2.2.1.2⟩ rfl rfl rfl
theorem LaidM.num {X base : Nat} {w : World} {t : Tm} {l : Lt} (h : LaidM X base w t l) (k : Int) (hk : i64 k) : LaidM X base (w.setCell ⟨X, 3, none⟩ (.int .i64 k)) { t with n := k } l :=
  h.fields (h.box.set_ 3 (.int .i64 k)) (fun b hb => Below.heap_setCell w ⟨X, 3, none⟩ _ b hb) ⟨h.2.2.1.1, hk, h.2.2.1.2.2⟩ rfl rfl rfl
/-- A type stored into the box: it lies where the box and the parts' row do not. -/
theorem LaidM.type {X base : Nat} {w : World} {t : Tm} {l : Lt} (h : LaidM X base w t l) {u : Ty} {a : Option Addr} {n c : Nat} {fp : List Nat} (hu : TyAt base w u a n c fp) (hX : X ∉ fp) (hg : ∀ g, (Value.slice l.aa l.an l.ac).ownBlock = some g → g ∉ fp) :
    LaidM X base ((w.setCell ⟨X, 4, none⟩ (.int .i64 u.kind)).setCell ⟨X, 5, none⟩ (.slice a n c)) { t with type := u } { l with ta := a, tn := n, tc := c } := by
  have hh : ∀ b, b ≠ X → ((w.setCell ⟨X, 4, none⟩ (.int .i64 u.kind)).setCell ⟨X, 5, none⟩ (.slice a n c)).heap[b]? = w.heap[b]? := fun b hb => (Below.heap_setCell _ ⟨X, 5, none⟩ _ b hb).trans (Below.heap_setCell w ⟨X, 4, none⟩ _ b hb)
  obtain ⟨hbX, hB, hf, cs, f1, f2, f3, h1, h2, hown, h3, hX3, hX1, hX2, hap⟩ := h
  refine ⟨hbX, (hB.set_ 4 (.int .i64 u.kind)).set_ 5 (.slice a n c), hf, cs, fp, f2, f3, ⟨RT.keep _ _ _ _ hu.1 fun b hb => SameB.of_heap (hh b fun e => hX (e ▸ hb)), hu.2⟩, ⟨RT.keep _ _ _ _ h2.1 fun b hb => SameB.of_heap (hh b fun e => hX2 (e ▸ hb)), h2.2⟩, ⟨hown.1, ?_⟩,
    RCM_keep h3 fun b hb => SameB.of_heap (hh b (hX3 b hb).2), hX3, hX, hX2, fun g hv => ⟨(hap g hv).1, hg g hv, (hap g hv).2.2⟩⟩
  rcases hown.2 with hn | ⟨g, cap, cur, hv, hg, hh', r⟩
  · exact .inl hn
  · exact .inr ⟨g, cap, cur, hv, hg, (hh g (hap g (by rw [hv]; rfl)).1).trans hh', r⟩
theorem LaidM.res {X base : Nat} {w : World} {t : Tm} {l : Lt} (h : LaidM X base w t l) {u : Ty} {a : Option Addr} {n c : Nat} {fp : List Nat} (hu : TyAt base w u a n c fp) (hX : X ∉ fp) (hg : ∀ g, (Value.slice l.aa l.an l.ac).ownBlock = some g → g ∉ fp) :
    LaidM X base ((w.setCell ⟨X, 6, none⟩ (.int .i64 u.kind)).setCell ⟨X, 7, none⟩ (.slice a n c)) { t with res := u } { l with ra := a, rn := n, rc := c } := by
  have hh : ∀ b, b ≠ X → ((w.setCell ⟨X, 6, none⟩ (.int .i64 u.kind)).setCell ⟨X, 7, none⟩ (.slice a n c)).heap[b]? = w.heap[b]? := fun b hb => (Below.heap_setCell _ ⟨X, 7, none⟩ _ b hb).trans (Below.heap_setCell w ⟨X, 6, none⟩ _ b hb)
  obtain ⟨hbX, hB, hf, cs, f1, f2, f3, h1, h2, hown, h3, hX3, hX1, hX2, hap⟩ := h
  refine ⟨hbX, (hB.set_ 6 (.int .i64 u.kind)).set_ 7 (.slice a n c), hf, cs, f1, fp, f3, ⟨RT.keep _ _ _ _ h1.1 fun b hb => SameB.of_heap (hh b fun e => hX1 (e ▸ hb)), h1.2⟩, ⟨RT.keep _ _ _ _ hu.1 fun b hb => SameB.of_heap (hh b fun e => hX (e ▸ hb)), hu.2⟩, ⟨hown.1, ?_⟩,
    RCM_keep h3 fun b hb => SameB.of_heap (hh b (hX3 b hb).2), hX3, hX1, hX, fun g hv => ⟨(hap g hv).1, (hap g hv).2.1, hg g hv, (hap g hv).2.2.2⟩⟩
  rcases hown.2 with hn | ⟨g, cap, cur, hv, hg, hh', r⟩
  · exact .inl hn
  · exact .inr ⟨g, cap, cur, hv, hg, (hh g (hap g (by rw [hv]; rfl)).1).trans hh', r⟩
/-- One part more. 'grown': the append of a boxed part to the parts' row; then the row's slice stored into the box. -/
theorem LaidM.step {X base g n : Nat} {t x : Tm} {l lx : Lt} {wr w1 w2 : World} {a' : Option Addr} {n' c' : Nat} {cs : List Value} {f1 f2 f3 fx : List Nat} {o : Obj} (hbX : base ≤ X) (hB : Blk wr X 29 #[.int .i64 t.kind, .string t.name, .string t.other, .int .i64 t.n, .int .i64 t.type.kind, .slice l.ta l.tn l.tc, .int .i64 t.res.kind, .slice l.ra l.rn l.rc, .slice l.aa l.an l.ac]) (hf : t.fits) (hn : n = t.args.length)
    (h1 : TyAt base wr t.type l.ta l.tn l.tc f1) (h2 : TyAt base wr t.res l.ra l.rn l.rc f2) (hown : wr.ownsRow base 29 9 (.slice l.aa l.an l.ac) n cs) (h3 : RCM wr t.args cs f3) (hX3 : ∀ b ∈ f3, base ≤ b ∧ b ≠ X) (hX1 : X ∉ f1) (hX2 : X ∉ f2)
    (hap : ∀ g, (Value.slice l.aa l.an l.ac).ownBlock = some g → g ≠ X ∧ g ∉ f1 ∧ g ∉ f2 ∧ g ∉ f3)
    (hF : Fresh base wr w1) (hx : RM w1 x lx fx) (hxf : ∀ b ∈ fx, wr.heap.size ≤ b) (hown2 : w2.ownsRow base 29 9 (.slice a' n' c') (n + 1) (cs ++ tcells x lx)) (hgrow : (w1.alloc o).grownBy w2 (Value.slice l.aa l.an l.ac).ownBlock)
    (hv' : (Value.slice a' n' c').ownBlock = some g) (hat : (Value.slice l.aa l.an l.ac).ownBlock = some g ∨ g = (w1.alloc o).heap.size) :
    LaidM X base (w2.setCell ⟨X, 8, none⟩ (.slice a' n' c')) { t with args := t.args ++ [x] } { l with aa := a', an := n', ac := c' } := by
  have s1 := hF.1
  have hvl := hown.lt
  have hXl := hB.lt
  have lt1 : ∀ y ∈ f1, y < wr.heap.size := RT.lt _ _ _ _ h1.1
  have lt2 : ∀ y ∈ f2, y < wr.heap.size := RT.lt _ _ _ _ h2.1
  have lt3 : ∀ y ∈ f3, y < wr.heap.size := RCM_lt h3
  have ltx : ∀ y ∈ fx, y < w1.heap.size := RM.lt _ _ _ hx
  have far : ∀ y, y ≠ X → (w2.setCell ⟨X, 8, none⟩ (.slice a' n' c')).heap[y]? = w2.heap[y]? := fun y hy => Below.heap_setCell w2 ⟨X, 8, none⟩ (.slice a' n' c') y hy
  have old2 : ∀ y, base ≤ y → y < wr.heap.size → some y ≠ (Value.slice l.aa l.an l.ac).ownBlock → w2.heap[y]? = wr.heap[y]? := fun y hy hlt hne => by
    rw [hgrow.block y (by simp; omega) hne, Below.heap_alloc _ _ _ (by omega), hF.2 y hy hlt]
  have old : ∀ y, base ≤ y → y < wr.heap.size → y ≠ X → some y ≠ (Value.slice l.aa l.an l.ac).ownBlock → (w2.setCell ⟨X, 8, none⟩ (.slice a' n' c')).heap[y]? = wr.heap[y]? := fun y hy hlt hX hne => by
    rw [far y hX, old2 y hy hlt hne]
  have new : ∀ y ∈ fx, (w2.setCell ⟨X, 8, none⟩ (.slice a' n' c')).heap[y]? = w1.heap[y]? := fun y hy => by
    have q1 := hxf y hy
    have q2 := ltx y hy
    rw [far y (by omega), hgrow.block y (by simp; omega) (fun e => by have := (hvl y e.symm).2; omega), Below.heap_alloc _ _ _ q2]
  have hXo : some X ≠ (Value.slice l.aa l.an l.ac).ownBlock := fun e => (hap X e.symm).1 rfl
  have hgX : g ≠ X := by
    rcases hat with h | h
    · exact (hap g h).1
    · simp at h
      omega
  have hB2 : Blk w2 X 29 #[.int .i64 t.kind, .string t.name, .string t.other, .int .i64 t.n, .int .i64 t.type.kind, .slice l.ta l.tn l.tc, .int .i64 t.res.kind, .slice l.ra l.rn l.rc, .slice l.aa l.an l.ac] := (old2 X hbX hXl hXo).trans hB
  refine ⟨hbX, hB2.set_ 8 (.slice a' n' c'), hf, cs ++ tcells x lx, f1, f2, f3 ++ fx, ⟨RT.keep _ _ _ _ h1.1 fun b hb => SameB.of_heap (old b (h1.2 b hb) (lt1 b hb) (fun e => hX1 (e ▸ hb)) fun e => (hap b e.symm).2.1 hb), h1.2⟩,
    ⟨RT.keep _ _ _ _ h2.1 fun b hb => SameB.of_heap (old b (h2.2 b hb) (lt2 b hb) (fun e => hX2 (e ▸ hb)) fun e => (hap b e.symm).2.2.1 hb), h2.2⟩, ?_, ?_, ?_, hX1, hX2, ?_⟩
  · have h : (w2.setCell ⟨X, 8, none⟩ (.slice a' n' c')).ownsRow base 29 9 (.slice a' n' c') (n + 1) (cs ++ tcells x lx) := by
      refine ⟨hown2.1, ?_⟩
      rcases hown2.2 with ⟨h0, _⟩ | ⟨g2, cap, cur, hv2, hg2, hh2, r2⟩
      · rw [h0] at hv'
        simp [Value.ownBlock] at hv'
      · have e : g2 = g := by
          rw [hv2] at hv'
          exact Option.some.inj hv'
        exact .inr ⟨g2, cap, cur, hv2, hg2, (far g2 (by rw [e]; exact hgX)).trans hh2, r2⟩
    simpa [hn] using h
  · exact RCM_snoc (RCM_keep h3 fun b hb => SameB.of_heap (old b (hX3 b hb).1 (lt3 b hb) (hX3 b hb).2 fun e => (hap b e.symm).2.2.2 hb)) (RM.keep _ _ _ hx fun b hb => SameB.of_heap (new b hb))
  · intro b hb
    rcases List.mem_append.1 hb with hb | hb
    · exact hX3 b hb
    · have := hxf b hb
      exact ⟨by omega, by omega⟩
  · intro g' hg'
    have e : g' = g := Option.some.inj (hg'.symm.trans hv')
    subst e
    refine ⟨hgX, ?_⟩
    rcases hat with h | h
    · have hl := hvl g' h
      obtain ⟨-, p1, p2, p3⟩ := hap g' h
      refine ⟨p1, p2, fun hin => ?_⟩
      rcases List.mem_append.1 hin with hin | hin
      · exact p3 hin
      · have := hxf g' hin
        omega
    · simp at h
      refine ⟨fun hin => ?_, fun hin => ?_, fun hin => ?_⟩
      · have := lt1 g' hin
        omega
      · have := lt2 g' hin
        omega
      · rcases List.mem_append.1 hin with hin | hin
        · have := lt3 g' hin
          omega
        · have := ltx g' hin
          omega
/-- Behind an append the box is as it was. -/
theorem box_grown {S : Nat} {w1 w2 : World} {v : Value} {bs : Array Value} {o : Obj} (hg : ∀ g, v.ownBlock = some g → g ≠ S) (hF : Blk w1 S 29 bs) (hgrow : (w1.alloc o).grownBy w2 v.ownBlock) :
    Blk w2 S 29 bs := (hF.alloc o).grown hgrow fun e => hg S e.symm rfl
/-- A term of one's own, stored into a new box. -/
theorem LaidM.of_own {base : Nat} {w : World} {t : Tm} {l : Lt} (h : OwnM base w t l) (hb : base ≤ w.heap.size) : LaidM w.heap.size base (w.alloc (.cells #[.int .i64 t.kind, .string t.name, .string t.other, .int .i64 t.n, .int .i64 t.type.kind, .slice l.ta l.tn l.tc, .int .i64 t.res.kind, .slice l.ra l.rn l.rc, .slice l.aa l.an l.ac] 29)) t l := by
  obtain ⟨hi, cs, f1, f2, f3, h1, h2, hown, h3, hge, hap⟩ := h
  have hF : Fresh base w (w.alloc (.cells #[.int .i64 t.kind, .string t.name, .string t.other, .int .i64 t.n, .int .i64 t.type.kind, .slice l.ta l.tn l.tc, .int .i64 t.res.kind, .slice l.ra l.rn l.rc, .slice l.aa l.an l.ac] 29)) := Fresh.of_below (below_new _ _)
  have k1 := RT.lt _ _ _ _ h1.1
  have k2 := RT.lt _ _ _ _ h2.1
  have k3 := RCM_lt h3
  exact ⟨hb, Blk.new _ _ _, hi, cs, f1, f2, f3, h1.fresh hF, h2.fresh hF, own_fresh hown hF, RCM_keep h3 fun b hb => SameB.of_heap (hF.2 b (hge b hb) (k3 b hb)), fun b hb => ⟨hge b hb, by have := k3 b hb; omega⟩,
    fun h => by have := k1 _ h; omega, fun h => by have := k2 _ h; omega, fun g hg => ⟨by have := (hown.lt g hg).2; omega, hap g hg⟩⟩
theorem Tm.wt_part {t x : Tm} (h : x ∈ t.args) (hw : t.wt ≤ 1048576) : x.wt ≤ 1048576 := by
  obtain ⟨j, hj, rfl⟩ := List.getElem_of_mem h
  have := Tm.wts_take t.args j hj
  have := Tm.wts_take_le t.args (j + 1)
  have := t.wt_eq
  omega
theorem LaidM.all {X base j : Nat} {w : World} {t : Tm} {l : Lt} (h : LaidM X base w { t with args := t.args.take j } l) (hj : t.args.length ≤ j) : LaidM X base w t l := by
  have e : ({ t with args := t.args.take j } : Tm) = t := by
    rw [List.take_of_length_le hj]
    cases t
    rfl
  rw [e] at h
  exact h

theorem OwnM.rm {base : Nat} {w : World} {t : Tm} {l : Lt} (h : OwnM base w t l) : ∃ fp, RM w t l fp ∧ ∀ b ∈ fp, base ≤ b := by
  obtain ⟨hi, cs, f1, f2, f3, h1, h2, hown, h3, hge, hap⟩ := h
  have hlen : l.an = t.args.length ∧ l.an ≤ l.ac ∧ l.ac ≤ maxLen := by
    rcases hown.2 with ⟨hv, hn⟩ | ⟨g, cap, cur, hv, hg, hh, hle, hm, hsz, htk⟩
    · injection hv with q1 q2 q3
      rw [q2, q3]
      exact ⟨hn.symm, Nat.le_refl _, by simp⟩
    · injection hv with q1 q2 q3
      rw [q2, q3]
      exact ⟨rfl, hle, hm⟩
  by_cases hx : t.args = []
  · refine ⟨_, RM.mk (f3 := []) hi hlen h1.1 h2.1 (.inl ⟨hx, rfl⟩), fun b hb => ?_⟩
    rw [List.append_nil] at hb
    exact (List.mem_append.1 hb).elim (h1.2 b) (h2.2 b)
  · rcases hown.2 with ⟨hv, hn⟩ | ⟨g, cap, cur, hv, hg, hh, hle, hm, hsz, htk⟩
    · exact absurd (List.length_eq_zero_iff.1 hn) hx
    · have hR : RMs w t.args g 0 f3 := RCM_rms h3 fun j u hu => by
        have := hown.cells (g := g) (by rw [hv]; rfl) j u hu
        simpa [Addr.add_lit] using this
      injection hv with q1 q2 q3
      refine ⟨_, RM.mk (f3 := g :: f3) hi hlen h1.1 h2.1 (.inr ⟨hx, g, 0, f3, q1, rfl, hR⟩), fun b hb => ?_⟩
      rcases List.mem_append.1 hb with hb | hb
      · exact h1.2 b hb
      · rcases List.mem_append.1 hb with hb | hb
        · exact h2.2 b hb
        · rcases List.mem_cons.1 hb with rfl | hb
          · exact hg
          · exact hge b hb
end Go.Proofs.Ytmdmnchnkfjpjaa

namespace Go.Proofs.Ytmdmnchnkfjpjaa
open Go.RowKit
set_option maxRecDepth 100000
set_option linter.unusedVariables false
set_option linter.unusedSimpArgs false

theorem strs_of (xs : List ByteArray) (h : ∀ x ∈ xs, x.size ≤ 1000) : ∀ j (hj : j < (xs.map Value.string).toArray.size), ∃ z : ByteArray, (xs.map Value.string).toArray[j] = .string z ∧ z.size ≤ 1000 := by
  intro j hj
  have hj' : j < xs.length := by simpa using hj
  exact ⟨xs[j], by simp, h _ (List.getElem_mem _)⟩
theorem ints_of (xs : List Int) (h : ∀ x ∈ xs, i64 x) : ∀ j (hj : j < (xs.map (Value.int .i64)).toArray.size), ∃ z : Int, (xs.map (Value.int .i64)).toArray[j] = .int .i64 z ∧ i64 z := by
  intro j hj
  have hj' : j < xs.length := by simpa using hj
  exact ⟨xs[j], by simp, h _ (List.getElem_mem _)⟩
theorem arityS_le (k : Int) (nm : ByteArray) : arityS k nm ≤ 3 ∧ -1 ≤ arityS k nm := by
  unfold arityS opArity
  repeat' split
  all_goals omega
/-- How heavy a drawn term of a depth may be. -/
def bndM : Nat → Nat
  | 0 => 2200
  | 1 => 2200
  | d + 2 => 2200 + 3 * (1 + bndM (d + 1))
theorem bndM_leaf (d : Nat) : 1000 ≤ bndM d := by
  match d with
  | 0 => simp [bndM]
  | 1 => simp [bndM]
  | d + 2 => simp only [bndM]; omega
theorem bndM_step (d : Nat) (h : 2 ≤ d) : bndM d = 2200 + 3 * (1 + bndM (d - 1)) := by
  match d, h with
  | d + 2, _ => simp only [bndM]; rfl
theorem wt_snoc (t x : Tm) (xs : List Tm) : Tm.wt { t with args := xs ++ [x] } = Tm.wt { t with args := xs } + 1 + x.wt := by
  rw [Tm.wt_eq, Tm.wt_eq]
  simp only [Tm.wts_append, Tm.wts]
  omega

set_option maxHeartbeats 6400000 in
theorem l5Any_any (p : Nat) (d : Nat) : d ≤ 8 → ∀ w, Cur w p → Calls Try.prog 33 #[.pointer (some ⟨p, 0, none⟩), .int .i64 (d : Int)] w (DrawsM p (bndM d) w) := by
  induction d using Nat.strongRecOn with
  | _ d ih =>
    intro hd8 w hC
    have hlt := hC.lt
    have d0 := Drew.alloc hC (.cells #[.int .i64 0, .string ⟨#[]⟩, .string ⟨#[]⟩, .int .i64 0, .int .i64 0, .slice none 0 0, .int .i64 0, .slice none 0 0, .slice none 0 0] 29)
    have B0 := Blk.new w 29 #[.int .i64 0, .string ⟨#[]⟩, .string ⟨#[]⟩, .int .i64 0, .int .i64 0, .slice none 0 0, .int .i64 0, .slice none 0 0, .slice none 0 0]
    have leaf : ∀ (W : World), Blk W w.heap.size 29 #[.int .i64 0, .string ⟨#[]⟩, .string ⟨#[]⟩, .int .i64 0, .int .i64 0, .slice none 0 0, .int .i64 0, .slice none 0 0, .slice none 0 0] → Drew p w W → Calls Try.prog 49 #[.pointer (some ⟨p, 0, none⟩)] W fun e w' => ∃ (t : Tm) (l : Lt), e = .returned (.agg #[.int .i64 t.kind, .string t.name, .string t.other, .int .i64 t.n, .int .i64 t.type.kind, .slice l.ta l.tn l.tc, .int .i64 t.res.kind, .slice l.ra l.rn l.rc, .slice l.aa l.an l.ac]) ∧ OwnM (w.heap.size + 1) w' t l ∧ t.wt ≤ bndM d ∧ Drew p w w' ∧ Blk w' w.heap.size 29 #[.int .i64 0, .string ⟨#[]⟩, .string ⟨#[]⟩, .int .i64 0, .int .i64 0, .slice none 0 0, .int .i64 0, .slice none 0 0, .slice none 0 0] := by
      intro W hB hD
      refine (l5Leaf_any p W hD.cur).mono ?_
      rintro e w' ⟨t, l, rfl, ho, hs, hd⟩
      have hl := hB.lt
      exact ⟨t, l, rfl, ho.base (by omega), Nat.le_trans hs (bndM_leaf d), hD.trans hd, (hd.block hl (by omega)).trans hB⟩
    replace leaf := hide leaf
    by_cases h2 : d < 2
    · have hd : decide ((d : Int) < 2) = true := by simp; omega
      clear ih
      go_enter Try.func33, Try.ntmps33
      go_wp2_with fail
      refine (leaf.out _ B0 d0).mono ?_
      rintro e w1 ⟨t, l, rfl, ho, hs, D1, B1⟩
      obtain ⟨q0, q1, q2, q3, q4, q5, q6, q7, q8⟩ : _ ∧ _ ∧ _ ∧ _ ∧ _ ∧ _ ∧ _ ∧ _ ∧ _ := ⟨B1.cell 0, B1.cell 1, B1.cell 2, B1.cell 3, B1.cell 4, B1.cell 5, B1.cell 6, B1.cell 7, B1.cell 8⟩
      simp at q0 q1 q2 q3 q4 q5 q6 q7 q8
      obtain ⟨z0, z1, z2, z3, z4, z5, z6, z7, z8⟩ : _ ∧ _ ∧ _ ∧ _ ∧ _ ∧ _ ∧ _ ∧ _ ∧ _ := ⟨B1.free 0, B1.free 1, B1.free 2, B1.free 3, B1.free 4, B1.free 5, B1.free 6, B1.free 7, B1.free 8⟩
      go_wp2_with fail
      have HD := DrawsM.mk rfl hC ho (by omega) hs D1
      have HB := (put_box B1 rfl t l).nine
      have E := putAt_zero w1 w.heap.size t l
      rw [← E]
      obtain ⟨r0, r1, r2, r3, r4, r5, r6, r7, r8⟩ := HB
      refine bodyPost_ret (v := .agg #[.int .i64 t.kind, .string t.name, .string t.other, .int .i64 t.n, .int .i64 t.type.kind, .slice l.ta l.tn l.tc, .int .i64 t.res.kind, .slice l.ra l.rn l.rc, .slice l.aa l.an l.ac]) ?_ rfl HD
      simp [results, Try.results33, go_sem, r0, r1, r2, r3, r4, r5, r6, r7, r8]
    · have IH := ih (d - 1) (by omega) (by omega)
      have hd : decide ((d : Int) < 2) = false := by simp; omega
      have hcast : ((d - 1 : Nat) : Int) = (d : Int) - 1 := by omega
      have hbnd := bndM_step d (by omega)
      rw [hcast] at IH
      have HI := hide IH
      replace hbnd := hide hbnd
      clear ih IH hcast
      go_enter Try.func33, Try.ntmps33
      go_wp2_with fail
      refine (l1Once_any p 5 _ d0.cur (by omega)).mono ?_
      rintro e w1 ⟨b, rfl, d1⟩
      have D1 := d0.trans d1
      have B1 : Blk w1 w.heap.size _ _ := (d1.block B0.lt (by omega)).trans B0
      cases b with
      | true =>
        go_wp2_with fail
        refine (leaf.out _ B1 D1).mono ?_
        clear D1 B1 d1
        rintro e w1 ⟨t, l, rfl, ho, hs, D1, B1⟩
        obtain ⟨q0, q1, q2, q3, q4, q5, q6, q7, q8⟩ : _ ∧ _ ∧ _ ∧ _ ∧ _ ∧ _ ∧ _ ∧ _ ∧ _ := ⟨B1.cell 0, B1.cell 1, B1.cell 2, B1.cell 3, B1.cell 4, B1.cell 5, B1.cell 6, B1.cell 7, B1.cell 8⟩
        simp at q0 q1 q2 q3 q4 q5 q6 q7 q8
        obtain ⟨z0, z1, z2, z3, z4, z5, z6, z7, z8⟩ : _ ∧ _ ∧ _ ∧ _ ∧ _ ∧ _ ∧ _ ∧ _ ∧ _ := ⟨B1.free 0, B1.free 1, B1.free 2, B1.free 3, B1.free 4, B1.free 5, B1.free 6, B1.free 7, B1.free 8⟩
        go_wp2_with fail
        have HD := DrawsM.mk rfl hC ho (by omega) hs D1
        have HB := (put_box B1 rfl t l).nine
        have E := putAt_zero w1 w.heap.size t l
        rw [← E]
        obtain ⟨r0, r1, r2, r3, r4, r5, r6, r7, r8⟩ := HB
        refine bodyPost_ret (v := .agg #[.int .i64 t.kind, .string t.name, .string t.other, .int .i64 t.n, .int .i64 t.type.kind, .slice l.ta l.tn l.tc, .int .i64 t.res.kind, .slice l.ra l.rn l.rc, .slice l.aa l.an l.ac]) ?_ rfl HD
        simp [results, Try.results33, go_sem, r0, r1, r2, r3, r4, r5, r6, r7, r8]
      | false =>
        clear leaf
        have D2 := D1.trans (Drew.alloc D1.cur (.cells #[.int .i64 4, .int .i64 5, .int .i64 6, .int .i64 7, .int .i64 8, .int .i64 9, .int .i64 10, .int .i64 11, .int .i64 12, .int .i64 13, .int .i64 10, .int .i64 4] 3))
        go_wp2_with fail
        refine (l1PickInt_any p w1.heap.size 12 3 _ _ D2.cur (Blk.new w1 _ _) D1.cur.lt rfl (by omega) (by omega) (ints_of [4, 5, 6, 7, 8, 9, 10, 11, 12, 13, 10, 4] (by simp [i64]))).mono ?_
        rintro e w2 ⟨z, rfl, hz, -, d3⟩
        have D3 := D2.trans d3
        have B3 : Blk w2 w.heap.size _ _ := (d3.block (by have := B1.lt; simp; omega) (by omega)).trans (B1.alloc _)
        have s3 := D3.size
        have L4 : LaidM w2.heap.size (w.heap.size + 1) (w2.alloc (.cells #[.int .i64 z, .string ⟨#[]⟩, .string ⟨#[]⟩, .int .i64 0, .int .i64 0, .slice none 0 0, .int .i64 0, .slice none 0 0, .slice none 0 0] 29)) (leafM z 0 ⟨#[]⟩) lt0 :=
          LaidM.new (by have := B3.lt; omega) (Blk.new w2 _ _) ⟨hz, by simp [leafM, i64], by simp [leafM, ByteArray.size], by simp [leafM, ByteArray.size]⟩ rfl rfl rfl
        have D4 := D3.trans (Drew.alloc D3.cur (.cells #[.int .i64 z, .string ⟨#[]⟩, .string ⟨#[]⟩, .int .i64 0, .int .i64 0, .slice none 0 0, .int .i64 0, .slice none 0 0, .slice none 0 0] 29))
        have B4 := B3.alloc (.cells #[.int .i64 z, .string ⟨#[]⟩, .string ⟨#[]⟩, .int .i64 0, .int .i64 0, .slice none 0 0, .int .i64 0, .slice none 0 0, .slice none 0 0] 29)
        have lB3 := B3.lt
        go_upto_block 0 with fail
        generalize w2.alloc (.cells #[.int .i64 z, .string ⟨#[]⟩, .string ⟨#[]⟩, .int .i64 0, .int .i64 0, .slice none 0 0, .int .i64 0, .slice none 0 0, .slice none 0 0] 29) = W4 at L4 D4 B4 ⊢
        have HL4 := hide L4.box
        have v0 := HL4.out.cell 0
        go_cut [] (fun wx => (∃ t : Tm, LaidM w2.heap.size (w.heap.size + 1) wx t lt0 ∧ t.args = [] ∧ t.type = ty0 ∧ t.res = ty0 ∧ t.other.size = 0 ∧ t.name.size ≤ 1000) ∧ Blk wx w.heap.size 29 #[.int .i64 0, .string ⟨#[]⟩, .string ⟨#[]⟩, .int .i64 0, .int .i64 0, .slice none 0 0, .int .i64 0, .slice none 0 0, .slice none 0 0] ∧ Drew p w wx)
        case first =>
          have lB4 := B4.lt
          by_cases k4 : z = 4
          · subst k4
            go_wp2_with fail
            have DAw5 := D4.trans (Drew.alloc D4.cur (.cells #[.string ⟨#[43]⟩, .string ⟨#[45]⟩, .string ⟨#[42]⟩, .string ⟨#[61]⟩, .string ⟨#[60]⟩, .string ⟨#[38]⟩, .string ⟨#[124]⟩, .string ⟨#[33]⟩] 9))
            refine (l1Pick_any p W4.heap.size 8 9 _ _ DAw5.cur (Blk.new W4 _ _) D4.cur.lt rfl (by omega) (by omega) (strs_of [⟨#[43]⟩, ⟨#[45]⟩, ⟨#[42]⟩, ⟨#[61]⟩, ⟨#[60]⟩, ⟨#[38]⟩, ⟨#[124]⟩, ⟨#[33]⟩] (by decide))).mono ?_
            rintro e w5 ⟨nm, rfl, hnm, -, dw5⟩
            have Dw5 := DAw5.trans dw5
            have Lw5 := (L4.keep (Fresh.of_below (below_new W4 (.cells #[.string ⟨#[43]⟩, .string ⟨#[45]⟩, .string ⟨#[42]⟩, .string ⟨#[61]⟩, .string ⟨#[60]⟩, .string ⟨#[38]⟩, .string ⟨#[124]⟩, .string ⟨#[33]⟩] 9)))).keep (dw5.fresh (by omega))
            have lw5 := (B4.alloc (.cells #[.string ⟨#[43]⟩, .string ⟨#[45]⟩, .string ⟨#[42]⟩, .string ⟨#[61]⟩, .string ⟨#[60]⟩, .string ⟨#[38]⟩, .string ⟨#[124]⟩, .string ⟨#[33]⟩] 9)).lt
            have Bw5 : Blk w5 w.heap.size 29 #[.int .i64 0, .string ⟨#[]⟩, .string ⟨#[]⟩, .int .i64 0, .int .i64 0, .slice none 0 0, .int .i64 0, .slice none 0 0, .slice none 0 0] := (dw5.block lw5 (by omega)).trans (B4.alloc _)
            have cw5 := Lw5.box.cell 1
            have fw5 := Lw5.box.free 1
            go_wp2_with fail
            go_meet
            exact ⟨⟨_, Lw5.name nm (by omega), rfl, rfl, rfl, rfl, hnm⟩, Bw5.far (p := ⟨w2.heap.size, 1, none⟩) (by simp; omega) _, Drew.store hC Dw5 (q := ⟨w2.heap.size, 1, none⟩) (by simp; omega) _⟩
          have g4 : (z == 4) = false := beq_eq_false_iff_ne.2 k4
          by_cases k6 : z = 6
          · subst k6
            go_wp2_with fail
            have DAw5 := D4.trans (Drew.alloc D4.cur (.cells #[.string ⟨#[120]⟩, .string ⟨#[121]⟩, .string ⟨#[102]⟩] 9))
            refine (l1Pick_any p W4.heap.size 3 9 _ _ DAw5.cur (Blk.new W4 _ _) D4.cur.lt rfl (by omega) (by omega) (strs_of [⟨#[120]⟩, ⟨#[121]⟩, ⟨#[102]⟩] (by decide))).mono ?_
            rintro e w5 ⟨nm, rfl, hnm, -, dw5⟩
            have Dw5 := DAw5.trans dw5
            have Lw5 := (L4.keep (Fresh.of_below (below_new W4 (.cells #[.string ⟨#[120]⟩, .string ⟨#[121]⟩, .string ⟨#[102]⟩] 9)))).keep (dw5.fresh (by omega))
            have lw5 := (B4.alloc (.cells #[.string ⟨#[120]⟩, .string ⟨#[121]⟩, .string ⟨#[102]⟩] 9)).lt
            have Bw5 : Blk w5 w.heap.size 29 #[.int .i64 0, .string ⟨#[]⟩, .string ⟨#[]⟩, .int .i64 0, .int .i64 0, .slice none 0 0, .int .i64 0, .slice none 0 0, .slice none 0 0] := (dw5.block lw5 (by omega)).trans (B4.alloc _)
            have cw5 := Lw5.box.cell 1
            have fw5 := Lw5.box.free 1
            go_wp2_with fail
            go_meet
            exact ⟨⟨_, Lw5.name nm (by omega), rfl, rfl, rfl, rfl, hnm⟩, Bw5.far (p := ⟨w2.heap.size, 1, none⟩) (by simp; omega) _, Drew.store hC Dw5 (q := ⟨w2.heap.size, 1, none⟩) (by simp; omega) _⟩
          have g6 : (z == 6) = false := beq_eq_false_iff_ne.2 k6
          by_cases k8 : z = 8
          · subst k8
            go_wp2_with fail
            have DAw5 := D4.trans (Drew.alloc D4.cur (.cells #[.string ⟨#[120]⟩, .string ⟨#[121]⟩, .string ⟨#[102]⟩] 9))
            refine (l1Pick_any p W4.heap.size 3 9 _ _ DAw5.cur (Blk.new W4 _ _) D4.cur.lt rfl (by omega) (by omega) (strs_of [⟨#[120]⟩, ⟨#[121]⟩, ⟨#[102]⟩] (by decide))).mono ?_
            rintro e w5 ⟨nm, rfl, hnm, -, dw5⟩
            have Dw5 := DAw5.trans dw5
            have Lw5 := (L4.keep (Fresh.of_below (below_new W4 (.cells #[.string ⟨#[120]⟩, .string ⟨#[121]⟩, .string ⟨#[102]⟩] 9)))).keep (dw5.fresh (by omega))
            have lw5 := (B4.alloc (.cells #[.string ⟨#[120]⟩, .string ⟨#[121]⟩, .string ⟨#[102]⟩] 9)).lt
            have Bw5 : Blk w5 w.heap.size 29 #[.int .i64 0, .string ⟨#[]⟩, .string ⟨#[]⟩, .int .i64 0, .int .i64 0, .slice none 0 0, .int .i64 0, .slice none 0 0, .slice none 0 0] := (dw5.block lw5 (by omega)).trans (B4.alloc _)
            have cw5 := Lw5.box.cell 1
            have fw5 := Lw5.box.free 1
            go_wp2_with fail
            go_meet
            exact ⟨⟨_, Lw5.name nm (by omega), rfl, rfl, rfl, rfl, hnm⟩, Bw5.far (p := ⟨w2.heap.size, 1, none⟩) (by simp; omega) _, Drew.store hC Dw5 (q := ⟨w2.heap.size, 1, none⟩) (by simp; omega) _⟩
          have g8 : (z == 8) = false := beq_eq_false_iff_ne.2 k8
          by_cases k9 : z = 9
          · subst k9
            go_wp2_with fail
            have DAw5 := D4.trans (Drew.alloc D4.cur (.cells #[.string ⟨#[120]⟩, .string ⟨#[121]⟩, .string ⟨#[102]⟩] 9))
            refine (l1Pick_any p W4.heap.size 3 9 _ _ DAw5.cur (Blk.new W4 _ _) D4.cur.lt rfl (by omega) (by omega) (strs_of [⟨#[120]⟩, ⟨#[121]⟩, ⟨#[102]⟩] (by decide))).mono ?_
            rintro e w5 ⟨nm, rfl, hnm, -, dw5⟩
            have Dw5 := DAw5.trans dw5
            have Lw5 := (L4.keep (Fresh.of_below (below_new W4 (.cells #[.string ⟨#[120]⟩, .string ⟨#[121]⟩, .string ⟨#[102]⟩] 9)))).keep (dw5.fresh (by omega))
            have lw5 := (B4.alloc (.cells #[.string ⟨#[120]⟩, .string ⟨#[121]⟩, .string ⟨#[102]⟩] 9)).lt
            have Bw5 : Blk w5 w.heap.size 29 #[.int .i64 0, .string ⟨#[]⟩, .string ⟨#[]⟩, .int .i64 0, .int .i64 0, .slice none 0 0, .int .i64 0, .slice none 0 0, .slice none 0 0] := (dw5.block lw5 (by omega)).trans (B4.alloc _)
            have cw5 := Lw5.box.cell 1
            have fw5 := Lw5.box.free 1
            go_wp2_with fail
            go_meet
            exact ⟨⟨_, Lw5.name nm (by omega), rfl, rfl, rfl, rfl, hnm⟩, Bw5.far (p := ⟨w2.heap.size, 1, none⟩) (by simp; omega) _, Drew.store hC Dw5 (q := ⟨w2.heap.size, 1, none⟩) (by simp; omega) _⟩
          have g9 : (z == 9) = false := beq_eq_false_iff_ne.2 k9
          go_wp2_with fail
          go_meet
          exact ⟨⟨_, L4, rfl, rfl, rfl, rfl, Nat.zero_le _⟩, B4, D4⟩
        case rest =>
        clear L4 D4 B4 HL4 v0
        obtain ⟨⟨t, LA, ea, et, er, eo, en⟩, BA, DA⟩ := hcut
        have s0 := LA.box.cell 0
        have lBA := BA.lt
        have draw2 := hide (l3Draw_any p 2 (by omega) wc DA.cur)
        go_upto_region 11 with fail
        go_cut [43] (fun s wx => s = .bool (t.kind == 6 || t.kind == 9) ∧ wx = wc)
        case first =>
          by_cases k6 : t.kind = 6
          · have g6 : (t.kind == 6) = true := beq_iff_eq.2 k6
            go_wp2_with fail
            go_meet
            exact ⟨by rw [g6]; rfl, rfl⟩
          · have g6 : (t.kind == 6) = false := beq_eq_false_iff_ne.2 k6
            go_wp2_with fail
            go_meet
            exact ⟨by rw [g6]; rfl, rfl⟩
        case rest =>
        obtain ⟨rfl, rfl⟩ := hcut
        go_upto_if 43 with fail
        go_cut [] (fun wx => (∃ (t : Tm) (l : Lt), LaidM w2.heap.size (w.heap.size + 1) wx t l ∧ t.args = [] ∧ t.type.size ≤ 3 ∧ t.res = ty0 ∧ t.other.size = 0 ∧ t.name.size ≤ 1000 ∧ Value.slice l.aa l.an l.ac = .slice none 0 0) ∧ Blk wx w.heap.size 29 #[.int .i64 0, .string ⟨#[]⟩, .string ⟨#[]⟩, .int .i64 0, .int .i64 0, .slice none 0 0, .int .i64 0, .slice none 0 0, .slice none 0 0] ∧ Drew p w wx)
        case first =>
          generalize (t.kind == 6 || t.kind == 9) = c69
          cases c69 with
          | true =>
            go_wp2_with fail
            refine draw2.out.mono ?_
            rintro e w5 ⟨u, v, rfl, ho, hs, d5⟩
            obtain ⟨ua, un, uc, rfl, -⟩ := ho.rd
            obtain ⟨fp, hT⟩ := ho.tyAt
            have lS := LA.lt
            have L5 := LA.keep (d5.fresh (by omega))
            have B5 : Blk w5 w.heap.size 29 #[.int .i64 0, .string ⟨#[]⟩, .string ⟨#[]⟩, .int .i64 0, .int .i64 0, .slice none 0 0, .int .i64 0, .slice none 0 0, .slice none 0 0] := (d5.block lBA (by omega)).trans BA
            have D5 := DA.trans d5
            have c4 := L5.box.cell 4
            have c5 := L5.box.cell 5
            have f4 := L5.box.free 4
            have f5 := L5.box.free 5
            go_wp2_with fail
            go_meet
            have lW := lBA
            refine ⟨⟨_, _, L5.type (fp := fp) ⟨hT.1, fun b hb => by have := hT.2 b hb; omega⟩ (fun h => by have := hT.2 _ h; omega) (fun g hg => by simp [Value.ownBlock, lt0] at hg), ea, hs, er, eo, en, rfl⟩, ?_, ?_⟩
            · exact (B5.far (p := ⟨w2.heap.size, 4, none⟩) (by simp; omega) _).far (p := ⟨w2.heap.size, 5, none⟩) (by simp; omega) _
            · exact Drew.store hC (Drew.store hC D5 (q := ⟨w2.heap.size, 4, none⟩) (by simp; omega) _) (q := ⟨w2.heap.size, 5, none⟩) (by simp; omega) _
          | false =>
            go_wp2_with fail
            go_meet
            exact ⟨⟨t, lt0, LA, ea, by rw [et]; simp [ty0, Ty.size, Ty.sizes], er, eo, en, rfl⟩, BA, DA⟩
        case rest =>
        clear draw2 s0 lBA BA DA LA ea et er eo en
        clear t
        obtain ⟨⟨t, l, LA, ea, et, er, eo, en, el⟩, BA, DA⟩ := hcut
        have s0 := LA.box.cell 0
        have lBA := BA.lt
        go_upto_if 49 with fail
        go_cut [] (fun wx => (∃ (t : Tm) (l : Lt), LaidM w2.heap.size (w.heap.size + 1) wx t l ∧ t.args = [] ∧ t.wt ≤ 2200) ∧ Blk wx w.heap.size 29 #[.int .i64 0, .string ⟨#[]⟩, .string ⟨#[]⟩, .int .i64 0, .int .i64 0, .slice none 0 0, .int .i64 0, .slice none 0 0, .slice none 0 0] ∧ Drew p w wx)
        case first =>
          have hwt := t.wt_eq
          rw [ea, er] at hwt
          simp only [Tm.wts, ty0, Ty.sizes] at hwt
          have hts := t.type.size_eq
          generalize (t.kind == 9) = c9
          cases c9 with
          | true =>
            go_wp2_with fail
            have DP := DA.trans (Drew.alloc DA.cur (.cells #[.string ⟨#[122]⟩, .string ⟨#[119]⟩] 9))
            refine (l1Pick_any p wc.heap.size 2 9 _ _ DP.cur (Blk.new wc _ _) DA.cur.lt rfl (by omega) (by omega) (strs_of [⟨#[122]⟩, ⟨#[119]⟩] (by decide))).mono ?_
            rintro e w5 ⟨ot, rfl, hot, -, d5⟩
            have D5 := DP.trans d5
            have lS := LA.lt
            have L5 := (LA.keep (Fresh.of_below (below_new wc (.cells #[.string ⟨#[122]⟩, .string ⟨#[119]⟩] 9)))).keep (d5.fresh (by omega))
            have lBC := (BA.alloc (.cells #[.string ⟨#[122]⟩, .string ⟨#[119]⟩] 9)).lt
            have B5 : Blk w5 w.heap.size 29 #[.int .i64 0, .string ⟨#[]⟩, .string ⟨#[]⟩, .int .i64 0, .int .i64 0, .slice none 0 0, .int .i64 0, .slice none 0 0, .slice none 0 0] := (d5.block lBC (by omega)).trans (BA.alloc _)
            have c2 := L5.box.cell 2
            have f2 := L5.box.free 2
            go_wp2_with fail
            have L6 := L5.other ot (by omega)
            have B6 := B5.far (p := ⟨w2.heap.size, 2, none⟩) (show w.heap.size ≠ w2.heap.size by omega) (.string ot)
            have D6 := Drew.store hC D5 (q := ⟨w2.heap.size, 2, none⟩) (show w.heap.size ≤ w2.heap.size by omega) (.string ot)
            generalize w5.setCell ⟨w2.heap.size, 2, none⟩ (.string ot) = w6 at L6 B6 D6 ⊢
            refine (l3Draw_any p 2 (by omega) w6 D6.cur).mono ?_
            rintro e w7 ⟨u, v, rfl, ho, hs, d7⟩
            obtain ⟨ua, un, uc, rfl, -⟩ := ho.rd
            obtain ⟨fp, hT⟩ := ho.tyAt
            have lS6 := L6.lt
            have lB6 := B6.lt
            have L7 := L6.keep (d7.fresh (by omega))
            have B7 : Blk w7 w.heap.size 29 #[.int .i64 0, .string ⟨#[]⟩, .string ⟨#[]⟩, .int .i64 0, .int .i64 0, .slice none 0 0, .int .i64 0, .slice none 0 0, .slice none 0 0] := (d7.block lB6 (by omega)).trans B6
            have D7 := D6.trans d7
            have c6 := L7.box.cell 6
            have c7 := L7.box.cell 7
            have f6 := L7.box.free 6
            have f7 := L7.box.free 7
            go_wp2_with fail
            go_meet
            refine ⟨⟨_, _, L7.res (fp := fp) ⟨hT.1, fun b hb => by have := hT.2 b hb; omega⟩ (fun h => by have := hT.2 _ h; omega) (fun g hg => by rw [el] at hg; simp [Value.ownBlock] at hg), ea, ?_⟩, ?_, ?_⟩
            · rw [Tm.wt_eq]
              have hus := u.size_eq
              show t.name.size + ot.size + Ty.sizes t.type.args + Ty.sizes u.args + Tm.wts t.args ≤ 2200
              rw [ea, Tm.wts]
              have : u.size ≤ 3 := hs
              omega
            · exact (B7.far (p := ⟨w2.heap.size, 6, none⟩) (by simp; omega) _).far (p := ⟨w2.heap.size, 7, none⟩) (by simp; omega) _
            · exact Drew.store hC (Drew.store hC D7 (q := ⟨w2.heap.size, 6, none⟩) (by simp; omega) _) (q := ⟨w2.heap.size, 7, none⟩) (by simp; omega) _
          | false =>
            go_wp2_with fail
            go_meet
            exact ⟨⟨t, l, LA, ea, by omega⟩, BA, DA⟩
        case rest =>
        clear s0 lBA BA DA LA ea et er eo en el
        clear t
        obtain ⟨⟨t, l, LA, ea, hw2⟩, BA, DA⟩ := hcut
        have lS := LA.lt
        obtain ⟨s0, s1, s2, s3, s4, s5, s6, s7, s8⟩ := LA.box.nine
        have ar := arityS_le t.kind t.name
        have CA := hide (l5Arity_any t l wc)
        generalize arityS t.kind t.name = n at ar CA
        go_wp2_with fail
        refine CA.out.mono ?_
        rintro e w4 ⟨rfl, b4⟩
        have L4 := LA.keep (Fresh.of_below b4)
        have B4 := BA.under b4
        have D4 := DA.next b4
        clear s0 s1 s2 s3 s4 s5 s6 s7 s8 CA LA BA DA b4
        obtain ⟨i0, hi, hz0, hz1, hz2⟩ := info_parts Try.infoTerm
        go_wp2_with fail
        go_loopw [7] (fun i wr => ∃ j : Nat, j ≤ 3 ∧ ((j : Int) ≤ n ∨ j = 0) ∧ i = .int .i64 j ∧ (∃ xs lr, xs.length = j ∧ LaidM w2.heap.size (w.heap.size + 1) wr { t with args := xs } lr ∧ Hid (Tm.wt { t with args := xs } ≤ 2200 + j * (1 + bndM (d - 1)))) ∧ Blk wr w.heap.size 29 #[.int .i64 0, .string ⟨#[]⟩, .string ⟨#[]⟩, .int .i64 0, .int .i64 0, .slice none 0 0, .int .i64 0, .slice none 0 0, .slice none 0 0] ∧ Drew p w wr) (fun i _ => (n - intOf i).toNat)
        case atStart => exact ⟨0, by omega, .inr rfl, rfl, ⟨[], l, rfl, by have e : ({ t with args := [] } : Tm) = t := (by rw [← ea]; cases t; rfl); rw [e]; exact L4, by have e : ({ t with args := [] } : Tm) = t := (by rw [← ea]; cases t; rfl); rw [Hid, e]; omega⟩, B4, D4⟩
        case round =>
          clear L4 B4 D4
          obtain ⟨j, hj3, hjn, rfl, ⟨xs, lr, hxl, hL, HW⟩, hR, hD⟩ := hrel
          have hB := hL.box
          have lS := hB.lt
          have lR := hR.lt
          by_cases hlt2 : (j : Int) < n
          · have hdd : decide ((j : Int) < n) = true := by simp; omega
            obtain ⟨hbX, -, hf, cs, f1, f2, f3, h1, h2, hown, h3, hX3, hX1, hX2, hap⟩ := hL
            replace hown : wr.ownsRow (w.heap.size + 1) 29 9 (.slice lr.aa lr.an lr.ac) j cs := by rw [← hxl]; exact hown
            have hxl := hide hxl
            have HBX := hide hB
            have s8 : wr.cell? ⟨w2.heap.size, 8, none⟩ = some (.slice lr.aa lr.an lr.ac) := hB.cell 8
            have hC5 : Cur wr.drew p := hD.cur.below (below_drew _)
            have hCr := hide hD.cur
            have hwr : IntKind.i64.wrap ((d : Int) - 1) = (d : Int) - 1 := IntWalk.i64_in _ (by omega)
            go_wp2_with fail
            go_region_law (first
              | (go_simp; go_at_call 33; (with_reducible refine (HI.out _ hC5).mono ?_); rintro e w5 ⟨x, lx, rfl, hO1, hs1, d1⟩; replace hO1 : OwnM wr.heap.size w5 x lx := hO1; replace d1 : Drew p wr w5 := Drew.after hCr.out (below_drew _) d1; have s1 := d1.size; have B1 : Blk w5 w2.heap.size 29 _ := (d1.block lS (by omega)).trans HBX.out; have y8 := B1.cell 8; have y8n := fun o => (B1.alloc o).cell 8)
              | (refine step_append_lies _ (by rfl) _ _ _ (by rfl) (w.heap.size + 1) 29 i0 _ 9 136 Try.underlying27 hi hz0 hz1 hz2 rfl (by omega) (.slice lr.aa lr.an lr.ac) j cs (by rfl) ((own_fresh hown (d1.fresh (by omega))).alloc _) ⟨w5.heap.size, 0, none⟩ 1 1 (tcells x lx) (by rfl) (by rfl) (World.news_of_block (cs := #[.int .i64 x.kind, .string x.name, .string x.other, .int .i64 x.n, .int .i64 x.type.kind, .slice lx.ta lx.tn lx.tc, .int .i64 x.res.kind, .slice lx.ra lx.rn lx.rc, .slice lx.aa lx.an lx.ac]) (t := 29) (fr := (0, 0)) (heap_alloc_new w5 _)) (by simp [Value.oneCell', tcells]) (by omega) (by unfold maxLen; omega) (by omega) (by simp; omega) (w5.heap.size + 1) (by simp) ?_; intro gg cap' w6 hown2 hgrow hat hlt6; have hB6 := box_grown (fun g hg => (hap g hg).1) B1 hgrow; have z8 := hB6.cell 8; have x8 := hB6.free 8))
            all_goals
              go_wp2_with fail
              go_roundw
              case rel =>
                obtain ⟨fx, hx, hxf⟩ := hO1.rm
                have hR5 : Blk w5 w.heap.size 29 #[.int .i64 0, .string ⟨#[]⟩, .string ⟨#[]⟩, .int .i64 0, .int .i64 0, .slice none 0 0, .int .i64 0, .slice none 0 0, .slice none 0 0] := (d1.block lR (by omega)).trans hR
                have hXg : ∀ X, X < (w.heap.size + 1) → some X ≠ (Value.slice lr.aa lr.an lr.ac).ownBlock := fun X hX e => by have := (hown.lt X e.symm).1; omega
                have H := LaidM.step (t := { t with args := xs }) (x := x) hbX HBX.out hf hxl.out.symm h1 h2 hown h3 hX3 hX1 hX2 hap (d1.fresh (by omega)) hx hxf hown2 hgrow rfl (by simpa using hat)
                refine ⟨j + 1, by omega, by omega, by go_num, ⟨xs ++ [x], _, by rw [List.length_append, hxl.out]; rfl, H, ?_⟩, ?_, ?_⟩
                · have h := HW.out
                  rw [Hid, wt_snoc]
                  have e : (j + 1) * (1 + bndM (d - 1)) = j * (1 + bndM (d - 1)) + (1 + bndM (d - 1)) := Nat.succ_mul _ _
                  omega
                · exact ((hR5.alloc _).grown hgrow (hXg _ (by omega))).far (p := ⟨w2.heap.size, 8, none⟩) (by simp; omega) _
                · exact Drew.over hC (hD.trans d1) ((((Below.refl _ _).alloc (by omega) _).grown hgrow (by simp; omega) fun k hk => by have := (hown.lt k hk).1; omega).setCell (p := ⟨w2.heap.size, 8, none⟩) (by simp; omega) _)
              case measure => simp [intOf]; omega
          · have hdd : decide ((j : Int) < n) = false := by simp; omega
            have hwt : Tm.wt { t with args := xs } ≤ bndM d := by
              have h := HW.out
              have e := hbnd.out
              have e2 : j * (1 + bndM (d - 1)) ≤ 3 * (1 + bndM (d - 1)) := Nat.mul_le_mul_right _ hj3
              omega
            clear HW
            generalize ({ t with args := xs } : Tm) = t' at hL hB hwt
            obtain ⟨s0, s1, s2, s3, s4, s5, s6, s7, s8⟩ := hB.nine
            obtain ⟨q0, q1, q2, q3, q4, q5, q6, q7, q8⟩ : _ ∧ _ ∧ _ ∧ _ ∧ _ ∧ _ ∧ _ ∧ _ ∧ _ := ⟨hR.cell 0, hR.cell 1, hR.cell 2, hR.cell 3, hR.cell 4, hR.cell 5, hR.cell 6, hR.cell 7, hR.cell 8⟩
            simp at q0 q1 q2 q3 q4 q5 q6 q7 q8
            obtain ⟨z0, z1, z2, z3, z4, z5, z6, z7, z8⟩ : _ ∧ _ ∧ _ ∧ _ ∧ _ ∧ _ ∧ _ ∧ _ ∧ _ := ⟨hR.free 0, hR.free 1, hR.free 2, hR.free 3, hR.free 4, hR.free 5, hR.free 6, hR.free 7, hR.free 8⟩
            go_wp2_with fail
            have HD := DrawsM.mk rfl hC hL.own (by omega) hwt hD
            have HB := (put_box hR rfl t' lr).nine
            have E := putAt_zero wr w.heap.size t' lr
            rw [← E]
            obtain ⟨r0, r1, r2, r3, r4, r5, r6, r7, r8⟩ := HB
            refine bodyPost_ret (v := .agg #[.int .i64 t'.kind, .string t'.name, .string t'.other, .int .i64 t'.n, .int .i64 t'.type.kind, .slice lr.ta lr.tn lr.tc, .int .i64 t'.res.kind, .slice lr.ra lr.rn lr.rc, .slice lr.aa lr.an lr.ac]) ?_ rfl HD
            simp [results, Try.results33, go_sem, r0, r1, r2, r3, r4, r5, r6, r7, r8]
end Go.Proofs.Ytmdmnchnkfjpjaa

namespace Go.Proofs.Ytmdmnchnkfjpjaa
open Go.RowKit
set_option maxRecDepth 100000
set_option linter.unusedVariables false
set_option linter.unusedSimpArgs false

theorem wt_name (t : Tm) (s : ByteArray) : Tm.wt { t with name := s } ≤ t.wt + s.size := by
  rw [Tm.wt_eq, t.wt_eq]
  dsimp only
  omega
theorem wt_other (t : Tm) (s : ByteArray) : Tm.wt { t with other := s } ≤ t.wt + s.size := by
  rw [Tm.wt_eq, t.wt_eq]
  dsimp only
  omega
theorem wt_kind (t : Tm) (k : Int) : Tm.wt { t with kind := k } = t.wt := by
  rw [Tm.wt_eq, t.wt_eq]
theorem wt_num (t : Tm) (k : Int) : Tm.wt { t with n := k } = t.wt := by
  rw [Tm.wt_eq, t.wt_eq]
theorem wt_type (t : Tm) (u : Ty) : Tm.wt { t with type := u } ≤ t.wt + u.size := by
  have := u.size_eq
  rw [Tm.wt_eq, t.wt_eq]
  dsimp only
  omega
theorem wt_args (t x : Tm) : Tm.wt { t with args := t.args ++ [x] } = t.wt + 1 + x.wt := by
  rw [Tm.wt_eq, t.wt_eq]
  simp only [Tm.wts_append, Tm.wts]
  omega
set_option maxHeartbeats 6400000 in
theorem l5Bent_any (p : Nat) (w : World) (hC : Cur w p) : Calls Try.prog 19 #[.pointer (some ⟨p, 0, none⟩)] w (DrawsM p 90100 w) := by
  have hlt := hC.lt
  have d0 := Drew.alloc hC (.cells #[.int .i64 0, .string ⟨#[]⟩, .string ⟨#[]⟩, .int .i64 0, .int .i64 0, .slice none 0 0, .int .i64 0, .slice none 0 0, .slice none 0 0] 29)
  have B0 := Blk.new w 29 #[.int .i64 0, .string ⟨#[]⟩, .string ⟨#[]⟩, .int .i64 0, .int .i64 0, .slice none 0 0, .int .i64 0, .slice none 0 0, .slice none 0 0]
  go_enter Try.func19, Try.ntmps19
  go_wp2_with fail
  refine (l1Below_any p 4 _ d0.cur (by omega)).mono ?_
  rintro e w1 ⟨y, rfl, y0, -, d1⟩
  have hy : y < 4 := by have := y0 (by omega); omega
  have D1 := d0.trans d1
  have B1 : Blk w1 w.heap.size _ _ := (d1.block B0.lt (by omega)).trans B0
  have CA := l5Any_any p (1 + y) (by omega) w1 D1.cur
  have hbn : bndM (1 + y) ≤ 88100 := by
    have : y = 0 ∨ y = 1 ∨ y = 2 ∨ y = 3 := by omega
    rcases this with rfl | rfl | rfl | rfl <;> decide
  rw [show ((1 + y : Nat) : Int) = 1 + (y : Int) by omega] at CA
  replace CA := hide CA
  go_wp2_with fail
  refine CA.out.mono ?_
  rintro e w2 ⟨t, l, rfl, ho, hs, d2⟩
  have D2 := D1.trans d2
  have B2 : Blk w2 w.heap.size _ _ := (d2.block B1.lt (by omega)).trans B1
  have lB1 := B1.lt
  have lB2 := B2.lt
  have L3 := LaidM.of_own (ho.base (show w.heap.size + 1 ≤ w1.heap.size by omega)) (by omega)
  have D3 := D2.trans (Drew.alloc D2.cur (.cells #[.int .i64 t.kind, .string t.name, .string t.other, .int .i64 t.n, .int .i64 t.type.kind, .slice l.ta l.tn l.tc, .int .i64 t.res.kind, .slice l.ra l.rn l.rc, .slice l.aa l.an l.ac] 29))
  have B3 := B2.alloc (.cells #[.int .i64 t.kind, .string t.name, .string t.other, .int .i64 t.n, .int .i64 t.type.kind, .slice l.ta l.tn l.tc, .int .i64 t.res.kind, .slice l.ra l.rn l.rc, .slice l.aa l.an l.ac] 29)
  clear CA ho
  go_upto_region 2 with fail
  generalize w2.alloc (.cells #[.int .i64 t.kind, .string t.name, .string t.other, .int .i64 t.n, .int .i64 t.type.kind, .slice l.ta l.tn l.tc, .int .i64 t.res.kind, .slice l.ra l.rn l.rc, .slice l.aa l.an l.ac] 29) = w3 at L3 D3 B3 ⊢
  go_wp2_with fail
  refine (l1Below_any p 14 _ D3.cur (by omega)).mono ?_
  rintro e w4 ⟨x, rfl, -, -, d4⟩
  have L6 := L3.keep (d4.fresh (by omega))
  have lB3 := B3.lt
  have B6 : Blk w4 w.heap.size 29 #[.int .i64 0, .string ⟨#[]⟩, .string ⟨#[]⟩, .int .i64 0, .int .i64 0, .slice none 0 0, .int .i64 0, .slice none 0 0, .slice none 0 0] := (d4.block lB3 (by omega)).trans B3
  have D6 := D3.trans d4
  clear L3 B3 D3 d4
  go_upto_block 0 with fail
  go_cut [] (fun wx => (∃ (t : Tm) (l : Lt), LaidM w2.heap.size (w.heap.size + 1) wx t l ∧ t.wt ≤ 90100) ∧ Blk wx w.heap.size 29 #[.int .i64 0, .string ⟨#[]⟩, .string ⟨#[]⟩, .int .i64 0, .int .i64 0, .slice none 0 0, .int .i64 0, .slice none 0 0, .slice none 0 0] ∧ Drew p w wx)
  case first =>
    have lS := L6.lt
    have lB6 := B6.lt
    by_cases k0 : x = 0
    · subst k0
      go_wp2_with fail
      refine (l1Below_any p 15 _ D6.cur (by omega)).mono ?_
      rintro e w5 ⟨k, rfl, hk0, -, d5⟩
      have hk : (k : Int) < 15 := hk0 (by omega)
      have D5 := D6.trans d5
      have L5 := L6.keep (d5.fresh (by omega))
      have B5 : Blk w5 w.heap.size 29 #[.int .i64 0, .string ⟨#[]⟩, .string ⟨#[]⟩, .int .i64 0, .int .i64 0, .slice none 0 0, .int .i64 0, .slice none 0 0, .slice none 0 0] := (d5.block lB6 (by omega)).trans B6
      have c0 := L5.box.cell 0
      have f0 := L5.box.free 0
      go_wp2_with fail
      go_meet
      exact ⟨⟨_, _, L5.kind (k : Int) ⟨by omega, by omega⟩, by rw [wt_kind]; omega⟩, B5.far (p := ⟨w2.heap.size, 0, none⟩) (by simp; omega) _, Drew.store hC D5 (q := ⟨w2.heap.size, 0, none⟩) (by simp; omega) _⟩
    have g0 : ((x : Int) == 0) = false := by simp; omega
    by_cases k1 : x = 1
    · subst k1
      go_wp2_with fail
      have DP := D6.trans (Drew.alloc D6.cur (.cells #[.int .i64 0, .int .i64 1, .int .i64 10006, .int .i64 10007, .int .i64 (-1)] 3))
      refine (l1PickInt_any p w4.heap.size 5 3 _ _ DP.cur (Blk.new w4 _ _) D6.cur.lt rfl (by omega) (by omega) (ints_of [0, 1, 10006, 10007, -1] (by simp [i64]))).mono ?_
      rintro e w5 ⟨k, rfl, hk, -, d5⟩
      have D5 := DP.trans d5
      have L5 := (L6.keep (Fresh.of_below (below_new w4 (.cells #[.int .i64 0, .int .i64 1, .int .i64 10006, .int .i64 10007, .int .i64 (-1)] 3)))).keep (d5.fresh (by omega))
      have lBC := (B6.alloc (.cells #[.int .i64 0, .int .i64 1, .int .i64 10006, .int .i64 10007, .int .i64 (-1)] 3)).lt
      have B5 : Blk w5 w.heap.size 29 #[.int .i64 0, .string ⟨#[]⟩, .string ⟨#[]⟩, .int .i64 0, .int .i64 0, .slice none 0 0, .int .i64 0, .slice none 0 0, .slice none 0 0] := (d5.block lBC (by omega)).trans (B6.alloc _)
      have c3 := L5.box.cell 3
      have f3 := L5.box.free 3
      go_wp2_with fail
      go_meet
      exact ⟨⟨_, _, L5.num k hk, by rw [wt_num]; omega⟩, B5.far (p := ⟨w2.heap.size, 3, none⟩) (by simp; omega) _, Drew.store hC D5 (q := ⟨w2.heap.size, 3, none⟩) (by simp; omega) _⟩
    have g1 : ((x : Int) == 1) = false := by simp; omega
    by_cases k2 : x = 2
    · subst k2
      go_wp2_with fail
      have DP := D6.trans (Drew.alloc D6.cur (.cells #[.string ⟨#[]⟩, .string ⟨#[120]⟩, .string ⟨#[108, 101, 116]⟩, .string ⟨#[97, 98, 99, 100, 101]⟩, .string ⟨#[43]⟩] 9))
      refine (l1Pick_any p w4.heap.size 5 9 _ _ DP.cur (Blk.new w4 _ _) D6.cur.lt rfl (by omega) (by omega) (strs_of [⟨#[]⟩, ⟨#[120]⟩, ⟨#[108, 101, 116]⟩, ⟨#[97, 98, 99, 100, 101]⟩, ⟨#[43]⟩] (by decide))).mono ?_
      rintro e w5 ⟨s, rfl, hs5, -, d5⟩
      have D5 := DP.trans d5
      have L5 := (L6.keep (Fresh.of_below (below_new w4 (.cells #[.string ⟨#[]⟩, .string ⟨#[120]⟩, .string ⟨#[108, 101, 116]⟩, .string ⟨#[97, 98, 99, 100, 101]⟩, .string ⟨#[43]⟩] 9)))).keep (d5.fresh (by omega))
      have lBC := (B6.alloc (.cells #[.string ⟨#[]⟩, .string ⟨#[120]⟩, .string ⟨#[108, 101, 116]⟩, .string ⟨#[97, 98, 99, 100, 101]⟩, .string ⟨#[43]⟩] 9)).lt
      have B5 : Blk w5 w.heap.size 29 #[.int .i64 0, .string ⟨#[]⟩, .string ⟨#[]⟩, .int .i64 0, .int .i64 0, .slice none 0 0, .int .i64 0, .slice none 0 0, .slice none 0 0] := (d5.block lBC (by omega)).trans (B6.alloc _)
      have c1 := L5.box.cell 1
      have f1 := L5.box.free 1
      go_wp2_with fail
      go_meet
      exact ⟨⟨_, _, L5.name s (by omega), by have := wt_name t s; omega⟩, B5.far (p := ⟨w2.heap.size, 1, none⟩) (by simp; omega) _, Drew.store hC D5 (q := ⟨w2.heap.size, 1, none⟩) (by simp; omega) _⟩
    have g2 : ((x : Int) == 2) = false := by simp; omega
    by_cases k3 : x = 3
    · subst k3
      obtain ⟨i0, hi, hz0, hz1, hz2⟩ := info_parts Try.infoTerm
      have hB := L6.box
      obtain ⟨hbX, -, hf, cs, f1, f2, f3, h1, h2, hown, h3, hX3, hX1, hX2, hap⟩ := L6
      obtain ⟨m, hm⟩ : ∃ m, m = t.args.length := ⟨_, rfl⟩
      rw [← hm] at hown
      have hmw : m ≤ 88100 := by
        have h1 := Tm.length_le_wts t.args
        have h2 := t.wt_eq
        omega
      have hm' := hide hm
      clear hm
      have HBX := hide hB
      have s8 : w4.cell? ⟨w2.heap.size, 8, none⟩ = some (.slice l.aa l.an l.ac) := hB.cell 8
      go_wp2_with fail
      go_region_law (first
        | (go_simp; go_at_call 35; (with_reducible refine (l5Var_eq ⟨#[120]⟩ _).mono ?_); rintro e w5 ⟨rfl, b1⟩; replace b1 : Below w4.heap.size w4 w5 := below_next (below_drew _) b1; have s1 := b1.size; have B1' := HBX.out.under b1; have y8 := B1'.cell 8; have y8n := fun o => (B1'.alloc o).cell 8)
        | (refine step_append_lies _ (by rfl) _ _ _ (by rfl) (w.heap.size + 1) 29 i0 _ 9 136 Try.underlying27 hi hz0 hz1 hz2 rfl (by omega) (.slice l.aa l.an l.ac) m cs (by rfl) ((own_below hown b1).alloc _) ⟨w5.heap.size, 0, none⟩ 1 1 (tcells (leafM 1 0 ⟨#[120]⟩) lt0) (by rfl) (by rfl) (World.news_of_block (cs := #[.int .i64 (leafM 1 0 ⟨#[120]⟩).kind, .string (leafM 1 0 ⟨#[120]⟩).name, .string (leafM 1 0 ⟨#[120]⟩).other, .int .i64 (leafM 1 0 ⟨#[120]⟩).n, .int .i64 (leafM 1 0 ⟨#[120]⟩).type.kind, .slice lt0.ta lt0.tn lt0.tc, .int .i64 (leafM 1 0 ⟨#[120]⟩).res.kind, .slice lt0.ra lt0.rn lt0.rc, .slice lt0.aa lt0.an lt0.ac]) (t := 29) (fr := (0, 0)) (heap_alloc_new w5 _)) (by simp [Value.oneCell', tcells]) (by omega) (by unfold maxLen; omega) (by omega) (by simp; omega) (w5.heap.size + 1) (by simp) ?_; intro gg cap' w6 hown2 hgrow hat hlt6; have hB6 := box_grown (fun g hg => (hap g hg).1) B1' hgrow; have z8 := hB6.cell 8; have x8 := hB6.free 8))
      all_goals
        go_wp2_with fail
        go_meet
        obtain ⟨fx, hx, hxf⟩ := (leafM_own w5.heap.size w5 (k := 1) (n := 0) (nm := ⟨#[120]⟩) (by simp [i64]) (by simp [i64]) (by decide)).rm
        have hXg : ∀ X, X < w.heap.size + 1 → some X ≠ (Value.slice l.aa l.an l.ac).ownBlock := fun X hX e => by have := (hown.lt X e.symm).1; omega
        have H := LaidM.step (t := t) (x := leafM 1 0 ⟨#[120]⟩) (lx := lt0) hbX HBX.out hf hm'.out h1 h2 hown h3 hX3 hX1 hX2 hap (Fresh.of_below b1) hx (fun b hb => by have := hxf b hb; omega) hown2 hgrow rfl (by simpa using hat)
        refine ⟨⟨_, _, H, ?_⟩, ?_, ?_⟩
        · rw [wt_args, leafM_wt]
          have : (⟨#[120]⟩ : ByteArray).size = 1 := rfl
          omega
        · exact (((B6.under b1).alloc _).grown hgrow (hXg _ (by omega))).far (p := ⟨w2.heap.size, 8, none⟩) (by simp; omega) _
        · exact Drew.over hC (D6.next b1) ((((Below.refl _ _).alloc (by omega) _).grown hgrow (by simp; omega) fun k hk => by have := (hown.lt k hk).1; omega).setCell (p := ⟨w2.heap.size, 8, none⟩) (by simp; omega) _)
    have g3 : ((x : Int) == 3) = false := by simp; omega
    by_cases k4 : x = 4
    · subst k4
      go_wp2_with fail
      refine (l3Bent_any p w4 D6.cur).mono ?_
      rintro e w5 ⟨u, v, rfl, ho, hs5, d5⟩
      obtain ⟨ua, un, uc, rfl, -⟩ := ho.rd
      obtain ⟨fp, hT⟩ := ho.tyAt
      have L5 := L6.keep (d5.fresh (by omega))
      have B5 : Blk w5 w.heap.size 29 #[.int .i64 0, .string ⟨#[]⟩, .string ⟨#[]⟩, .int .i64 0, .int .i64 0, .slice none 0 0, .int .i64 0, .slice none 0 0, .slice none 0 0] := (d5.block lB6 (by omega)).trans B6
      have D5 := D6.trans d5
      have c4 := L5.box.cell 4
      have c5 := L5.box.cell 5
      have f4 := L5.box.free 4
      have f5 := L5.box.free 5
      go_wp2_with fail
      go_meet
      have hgg : ∀ g, (Value.slice l.aa l.an l.ac).ownBlock = some g → g < w4.heap.size := fun g hg => by
        obtain ⟨hbX, -, hf, cs, f1, f2, f3, h1, h2, hown, h3, hX3, hX1, hX2, hap⟩ := L6
        exact (hown.lt g hg).2
      refine ⟨⟨_, _, L5.type (fp := fp) ⟨hT.1, fun b hb => by have := hT.2 b hb; omega⟩ (fun h => by have := hT.2 _ h; omega) (fun g hg h => by have := hgg g hg; have := hT.2 _ h; omega), by have := wt_type t u; omega⟩, ?_, ?_⟩
      · exact (B5.far (p := ⟨w2.heap.size, 4, none⟩) (by simp; omega) _).far (p := ⟨w2.heap.size, 5, none⟩) (by simp; omega) _
      · exact Drew.store hC (Drew.store hC D5 (q := ⟨w2.heap.size, 4, none⟩) (by simp; omega) _) (q := ⟨w2.heap.size, 5, none⟩) (by simp; omega) _
    have g4 : ((x : Int) == 4) = false := by simp; omega
    by_cases k5 : x = 5
    · subst k5
      go_wp2_with fail
      have DP := D6.trans (Drew.alloc D6.cur (.cells #[.string ⟨#[120]⟩, .string ⟨#[122]⟩] 9))
      refine (l1Pick_any p w4.heap.size 2 9 _ _ DP.cur (Blk.new w4 _ _) D6.cur.lt rfl (by omega) (by omega) (strs_of [⟨#[120]⟩, ⟨#[122]⟩] (by decide))).mono ?_
      rintro e w5 ⟨s, rfl, hs5, -, d5⟩
      have D5 := DP.trans d5
      have L5 := (L6.keep (Fresh.of_below (below_new w4 (.cells #[.string ⟨#[120]⟩, .string ⟨#[122]⟩] 9)))).keep (d5.fresh (by omega))
      have lBC := (B6.alloc (.cells #[.string ⟨#[120]⟩, .string ⟨#[122]⟩] 9)).lt
      have B5 : Blk w5 w.heap.size 29 #[.int .i64 0, .string ⟨#[]⟩, .string ⟨#[]⟩, .int .i64 0, .int .i64 0, .slice none 0 0, .int .i64 0, .slice none 0 0, .slice none 0 0] := (d5.block lBC (by omega)).trans (B6.alloc _)
      have c2 := L5.box.cell 2
      have f2 := L5.box.free 2
      go_wp2_with fail
      go_meet
      exact ⟨⟨_, _, L5.other s (by omega), by have := wt_other t s; omega⟩, B5.far (p := ⟨w2.heap.size, 2, none⟩) (by simp; omega) _, Drew.store hC D5 (q := ⟨w2.heap.size, 2, none⟩) (by simp; omega) _⟩
    have g5 : ((x : Int) == 5) = false := by simp; omega
    go_wp2_with fail
    go_meet
    exact ⟨⟨t, l, L6, by omega⟩, B6, D6⟩
  case rest =>
  clear L6 B6 D6
  clear hs t l d2
  obtain ⟨⟨t, l, hL, hwt⟩, hR, hD⟩ := hcut
  have hB := hL.box
  obtain ⟨s0, s1, s2, s3, s4, s5, s6, s7, s8⟩ := hB.nine
  obtain ⟨q0, q1, q2, q3, q4, q5, q6, q7, q8⟩ : _ ∧ _ ∧ _ ∧ _ ∧ _ ∧ _ ∧ _ ∧ _ ∧ _ := ⟨hR.cell 0, hR.cell 1, hR.cell 2, hR.cell 3, hR.cell 4, hR.cell 5, hR.cell 6, hR.cell 7, hR.cell 8⟩
  simp at q0 q1 q2 q3 q4 q5 q6 q7 q8
  obtain ⟨z0, z1, z2, z3, z4, z5, z6, z7, z8⟩ : _ ∧ _ ∧ _ ∧ _ ∧ _ ∧ _ ∧ _ ∧ _ ∧ _ := ⟨hR.free 0, hR.free 1, hR.free 2, hR.free 3, hR.free 4, hR.free 5, hR.free 6, hR.free 7, hR.free 8⟩
  go_wp2_with fail
  have HD := DrawsM.mk rfl hC hL.own (by omega) hwt hD
  have HB := (put_box hR rfl t l).nine
  have E := putAt_zero wc w.heap.size t l
  rw [← E]
  obtain ⟨r0, r1, r2, r3, r4, r5, r6, r7, r8⟩ := HB
  refine bodyPost_ret (v := .agg #[.int .i64 t.kind, .string t.name, .string t.other, .int .i64 t.n, .int .i64 t.type.kind, .slice l.ta l.tn l.tc, .int .i64 t.res.kind, .slice l.ra l.rn l.rc, .slice l.aa l.an l.ac]) ?_ rfl HD
  simp [results, Try.results19, go_sem, r0, r1, r2, r3, r4, r5, r6, r7, r8]
end Go.Proofs.Ytmdmnchnkfjpjaa

namespace Go.Proofs.Ytmdmnchnkfjpjaa
open Go.RowKit
set_option maxRecDepth 100000
set_option linter.unusedVariables false
set_option linter.unusedSimpArgs false

/-- The nine cells of a term's box. -/
abbrev Nine (b : Nat) (t : Tm) (l : Lt) (W : World) : Prop := W.cell? ⟨b, 0, none⟩ = some (.int .i64 t.kind) ∧ W.cell? ⟨b, 1, none⟩ = some (.string t.name) ∧ W.cell? ⟨b, 2, none⟩ = some (.string t.other) ∧ W.cell? ⟨b, 3, none⟩ = some (.int .i64 t.n) ∧
    W.cell? ⟨b, 4, none⟩ = some (.int .i64 t.type.kind) ∧ W.cell? ⟨b, 5, none⟩ = some (.slice l.ta l.tn l.tc) ∧ W.cell? ⟨b, 6, none⟩ = some (.int .i64 t.res.kind) ∧ W.cell? ⟨b, 7, none⟩ = some (.slice l.ra l.rn l.rc) ∧ W.cell? ⟨b, 8, none⟩ = some (.slice l.aa l.an l.ac)
theorem nine_set {b M i : Nat} {t : Tm} {l : Lt} {W : World} {v : Value} (hne : b ≠ M) (h : Nine b t l W) : Nine b t l (W.setCell ⟨M, i, none⟩ v) := by
  have e : ∀ o, (W.setCell ⟨M, i, none⟩ v).cell? ⟨b, o, none⟩ = W.cell? ⟨b, o, none⟩ := fun o => same_set (p := ⟨M, i, none⟩) hne v o
  unfold Nine
  rw [e, e, e, e, e, e, e, e, e]
  exact h
set_option maxHeartbeats 3200000 in
theorem l5Copy_any (t : Tm) : ∀ (l : Lt) (w : World), Md w t l → t.wt ≤ 1048576 → Calls Try.prog 22 #[.agg #[.int .i64 t.kind, .string t.name, .string t.other, .int .i64 t.n, .int .i64 t.type.kind, .slice l.ta l.tn l.tc, .int .i64 t.res.kind, .slice l.ra l.rn l.rc, .slice l.aa l.an l.ac]] w (GivesM w t) := by
  induction t using Tm.ind' with | h t ih => ?_
  intro l w h hl
  have IH := hide ih
  clear ih
  obtain ⟨h0, ht, hrr, hr⟩ := h.shape
  clear h
  have hn : l.an ≤ 1048576 := by
    have := Tm.length_le_wts t.args
    have h1 : l.an = t.args.length := hr.1
    have := t.wt_eq
    omega
  have hwt := t.wt_eq
  have C1 := hide (fun (W : World) (hW : Below w.heap.size w W) => l3Copy_any t.type _ _ W (ht.below hW) (by omega))
  have C2 := hide (fun (W : World) (hW : Below w.heap.size w W) => l3Copy_any t.res _ _ W (hrr.below hW) (by omega))
  clear hwt ht hrr
  obtain ⟨i0, hi, hz0, hz1, hz2⟩ := info_parts Try.infoTerm
  have bn := below_next (below_new w (.cells #[.int .i64 t.kind, .string t.name, .string t.other, .int .i64 t.n, .int .i64 t.type.kind, .slice l.ta l.tn l.tc, .int .i64 t.res.kind, .slice l.ra l.rn l.rc, .slice l.aa l.an l.ac] 29)) (below_new (w.alloc (.cells #[.int .i64 t.kind, .string t.name, .string t.other, .int .i64 t.n, .int .i64 t.type.kind, .slice l.ta l.tn l.tc, .int .i64 t.res.kind, .slice l.ra l.rn l.rc, .slice l.aa l.an l.ac] 29)) (.cells #[.int .i64 0, .string ⟨#[]⟩, .string ⟨#[]⟩, .int .i64 0, .int .i64 0, .slice none 0 0, .int .i64 0, .slice none 0 0, .slice none 0 0] 29))
  have A := (Blk.new w 29 #[.int .i64 t.kind, .string t.name, .string t.other, .int .i64 t.n, .int .i64 t.type.kind, .slice l.ta l.tn l.tc, .int .i64 t.res.kind, .slice l.ra l.rn l.rc, .slice l.aa l.an l.ac]).alloc (.cells #[.int .i64 0, .string ⟨#[]⟩, .string ⟨#[]⟩, .int .i64 0, .int .i64 0, .slice none 0 0, .int .i64 0, .slice none 0 0, .slice none 0 0] 29)
  have R := Blk.new2 w (.cells #[.int .i64 t.kind, .string t.name, .string t.other, .int .i64 t.n, .int .i64 t.type.kind, .slice l.ta l.tn l.tc, .int .i64 t.res.kind, .slice l.ra l.rn l.rc, .slice l.aa l.an l.ac] 29) 29 #[.int .i64 0, .string ⟨#[]⟩, .string ⟨#[]⟩, .int .i64 0, .int .i64 0, .slice none 0 0, .int .i64 0, .slice none 0 0, .slice none 0 0]
  have HS := hide (fun (W : World) (hW : Below ((w.alloc (.cells #[.int .i64 t.kind, .string t.name, .string t.other, .int .i64 t.n, .int .i64 t.type.kind, .slice l.ta l.tn l.tc, .int .i64 t.res.kind, .slice l.ra l.rn l.rc, .slice l.aa l.an l.ac] 29)).alloc (.cells #[.int .i64 0, .string ⟨#[]⟩, .string ⟨#[]⟩, .int .i64 0, .int .i64 0, .slice none 0 0, .int .i64 0, .slice none 0 0, .slice none 0 0] 29)).heap.size ((w.alloc (.cells #[.int .i64 t.kind, .string t.name, .string t.other, .int .i64 t.n, .int .i64 t.type.kind, .slice l.ta l.tn l.tc, .int .i64 t.res.kind, .slice l.ra l.rn l.rc, .slice l.aa l.an l.ac] 29)).alloc (.cells #[.int .i64 0, .string ⟨#[]⟩, .string ⟨#[]⟩, .int .i64 0, .int .i64 0, .slice none 0 0, .int .i64 0, .slice none 0 0, .slice none 0 0] 29)) W) => (A.under hW).nine)
  have kb := below_drew ((w.alloc (.cells #[.int .i64 t.kind, .string t.name, .string t.other, .int .i64 t.n, .int .i64 t.type.kind, .slice l.ta l.tn l.tc, .int .i64 t.res.kind, .slice l.ra l.rn l.rc, .slice l.aa l.an l.ac] 29)).alloc (.cells #[.int .i64 0, .string ⟨#[]⟩, .string ⟨#[]⟩, .int .i64 0, .int .i64 0, .slice none 0 0, .int .i64 0, .slice none 0 0, .slice none 0 0] 29))
  have HN1 := hide (show w.heap.size ≠ w.heap.size + 1 + 1 by omega)
  have HN2 := hide (fun (W : World) (hW : Below ((w.alloc (.cells #[.int .i64 t.kind, .string t.name, .string t.other, .int .i64 t.n, .int .i64 t.type.kind, .slice l.ta l.tn l.tc, .int .i64 t.res.kind, .slice l.ra l.rn l.rc, .slice l.aa l.an l.ac] 29)).alloc (.cells #[.int .i64 0, .string ⟨#[]⟩, .string ⟨#[]⟩, .int .i64 0, .int .i64 0, .slice none 0 0, .int .i64 0, .slice none 0 0, .slice none 0 0] 29)).drew.heap.size ((w.alloc (.cells #[.int .i64 t.kind, .string t.name, .string t.other, .int .i64 t.n, .int .i64 t.type.kind, .slice l.ta l.tn l.tc, .int .i64 t.res.kind, .slice l.ra l.rn l.rc, .slice l.aa l.an l.ac] 29)).alloc (.cells #[.int .i64 0, .string ⟨#[]⟩, .string ⟨#[]⟩, .int .i64 0, .int .i64 0, .slice none 0 0, .int .i64 0, .slice none 0 0, .slice none 0 0] 29)).drew W) => show w.heap.size ≠ W.heap.size by have := hW.size; simp at this; omega)
  have kb2 := below_next (below_new ((w.alloc (.cells #[.int .i64 t.kind, .string t.name, .string t.other, .int .i64 t.n, .int .i64 t.type.kind, .slice l.ta l.tn l.tc, .int .i64 t.res.kind, .slice l.ra l.rn l.rc, .slice l.aa l.an l.ac] 29)).alloc (.cells #[.int .i64 0, .string ⟨#[]⟩, .string ⟨#[]⟩, .int .i64 0, .int .i64 0, .slice none 0 0, .int .i64 0, .slice none 0 0, .slice none 0 0] 29)) (.cells #[.int .i64 0, .string ⟨#[]⟩, .string ⟨#[]⟩, .int .i64 0, .int .i64 0, .slice none 0 0, .int .i64 0, .slice none 0 0, .slice none 0 0] 29)) (below_drew _)
  have HBS := hide (fun (W : World) (hW : Below (((w.alloc (.cells #[.int .i64 t.kind, .string t.name, .string t.other, .int .i64 t.n, .int .i64 t.type.kind, .slice l.ta l.tn l.tc, .int .i64 t.res.kind, .slice l.ra l.rn l.rc, .slice l.aa l.an l.ac] 29)).alloc (.cells #[.int .i64 0, .string ⟨#[]⟩, .string ⟨#[]⟩, .int .i64 0, .int .i64 0, .slice none 0 0, .int .i64 0, .slice none 0 0, .slice none 0 0] 29)).alloc (.cells #[.int .i64 0, .string ⟨#[]⟩, .string ⟨#[]⟩, .int .i64 0, .int .i64 0, .slice none 0 0, .int .i64 0, .slice none 0 0, .slice none 0 0] 29)).drew.heap.size (((w.alloc (.cells #[.int .i64 t.kind, .string t.name, .string t.other, .int .i64 t.n, .int .i64 t.type.kind, .slice l.ta l.tn l.tc, .int .i64 t.res.kind, .slice l.ra l.rn l.rc, .slice l.aa l.an l.ac] 29)).alloc (.cells #[.int .i64 0, .string ⟨#[]⟩, .string ⟨#[]⟩, .int .i64 0, .int .i64 0, .slice none 0 0, .int .i64 0, .slice none 0 0, .slice none 0 0] 29)).alloc (.cells #[.int .i64 0, .string ⟨#[]⟩, .string ⟨#[]⟩, .int .i64 0, .int .i64 0, .slice none 0 0, .int .i64 0, .slice none 0 0, .slice none 0 0] 29)).drew W) => show Blk W (w.heap.size + 1 + 1) 29 #[.int .i64 0, .string ⟨#[]⟩, .string ⟨#[]⟩, .int .i64 0, .int .i64 0, .slice none 0 0, .int .i64 0, .slice none 0 0, .slice none 0 0] by
    have := Blk.under (Blk.under (Blk.new ((w.alloc (.cells #[.int .i64 t.kind, .string t.name, .string t.other, .int .i64 t.n, .int .i64 t.type.kind, .slice l.ta l.tn l.tc, .int .i64 t.res.kind, .slice l.ra l.rn l.rc, .slice l.aa l.an l.ac] 29)).alloc (.cells #[.int .i64 0, .string ⟨#[]⟩, .string ⟨#[]⟩, .int .i64 0, .int .i64 0, .slice none 0 0, .int .i64 0, .slice none 0 0, .slice none 0 0] 29)) 29 #[.int .i64 0, .string ⟨#[]⟩, .string ⟨#[]⟩, .int .i64 0, .int .i64 0, .slice none 0 0, .int .i64 0, .slice none 0 0, .slice none 0 0]) (below_drew _)) hW
    simpa using this)
  go_enter Try.func22, Try.ntmps22
  go_upto_region 1 with fail
  go_cut [3] (fun s wx => ∃ S l', s = .pointer (some ⟨S, 0, none⟩) ∧ LaidM S (w.heap.size + 1 + 1) wx { t with args := [] } l' ∧ Blk wx w.heap.size 29 #[.int .i64 t.kind, .string t.name, .string t.other, .int .i64 t.n, .int .i64 t.type.kind, .slice l.ta l.tn l.tc, .int .i64 t.res.kind, .slice l.ra l.rn l.rc, .slice l.aa l.an l.ac] ∧ Blk wx (w.heap.size + 1) 29 #[.int .i64 0, .string ⟨#[]⟩, .string ⟨#[]⟩, .int .i64 0, .int .i64 0, .slice none 0 0, .int .i64 0, .slice none 0 0, .slice none 0 0] ∧ Below w.heap.size w wx)
  case first =>
    (go_region_held3 (fun W => W.cell? ⟨w.heap.size, 0, none⟩ = some (.int .i64 t.kind) ∧ W.cell? ⟨w.heap.size, 1, none⟩ = some (.string t.name) ∧ W.cell? ⟨w.heap.size, 2, none⟩ = some (.string t.other) ∧ W.cell? ⟨w.heap.size, 3, none⟩ = some (.int .i64 t.n) ∧
          W.cell? ⟨w.heap.size, 4, none⟩ = some (.int .i64 t.type.kind) ∧ W.cell? ⟨w.heap.size, 5, none⟩ = some (.slice l.ta l.tn l.tc) ∧ W.cell? ⟨w.heap.size, 6, none⟩ = some (.int .i64 t.res.kind) ∧ W.cell? ⟨w.heap.size, 7, none⟩ = some (.slice l.ra l.rn l.rc) ∧ W.cell? ⟨w.heap.size, 8, none⟩ = some (.slice l.aa l.an l.ac))
        (first
          | (with_reducible exact nine_set hne (nine_set hne (nine_set hne (nine_set hne (nine_set hne (nine_set hne (nine_set hne (nine_set hne (nine_set hne K2.out)))))))))
          | exact HS.out _ kb
          | exact HS.out _ kb2
          | exact HS.out _ q1
          | exact HS.out _ (below_next q1 (below_new _ _))
          | exact HS.out _ q2
          | exact HS.out _ (below_next q2 (below_new _ _))
          | fail)
        (first
          | (go_at_call 38; (with_reducible refine (C1.out _ (below_next bn kb)).mono ?_); rintro e w1 ⟨d0, d1, f1, rfl, hR1, -, hO1, b1⟩; have q1 := below_next kb b1; obtain ⟨xa, xn, xc, rfl, rfl, -, -⟩ := hR1.rd.shape)
          | (go_at_call 38; (with_reducible refine (C1.out _ (below_next bn kb2)).mono ?_); rintro e w1 ⟨d0, d1, f1, rfl, hR1, -, hO1, b1⟩; have q1 := below_next kb2 b1; obtain ⟨xa, xn, xc, rfl, rfl, -, -⟩ := hR1.rd.shape
             have hBS := HBS.out _ b1)
          | (go_at_call 38; (with_reducible refine (C2.out _ (below_next bn q1)).mono ?_); rintro e w2 ⟨d0, d1, f2, rfl, hR2, -, hO2, b2⟩; have k12 := b2; have q2 := below_next q1 b2; obtain ⟨ya, yn, yc, rfl, rfl, -, -⟩ := hR2.rd.shape; have K2 := HS.out _ q2; replace K2 := hide K2
             try (have hne := HN1.out; have hB2 := hBS.under b2; obtain ⟨c0, c1, c2, c3, c4, c5, c6, c7, c8⟩ : _ ∧ _ ∧ _ ∧ _ ∧ _ ∧ _ ∧ _ ∧ _ ∧ _ := ⟨hB2.cell 0, hB2.cell 1, hB2.cell 2, hB2.cell 3, hB2.cell 4, hB2.cell 5, hB2.cell 6, hB2.cell 7, hB2.cell 8⟩; simp at c0 c1 c2 c3 c4 c5 c6 c7 c8; obtain ⟨z0, z1, z2, z3, z4, z5, z6, z7, z8⟩ : _ ∧ _ ∧ _ ∧ _ ∧ _ ∧ _ ∧ _ ∧ _ ∧ _ := ⟨hB2.free 0, hB2.free 1, hB2.free 2, hB2.free 3, hB2.free 4, hB2.free 5, hB2.free 6, hB2.free 7, hB2.free 8⟩))
          | (go_at_call 38; (with_reducible refine (C2.out _ (below_next bn (below_next q1 (below_new _ _)))).mono ?_); rintro e w2 ⟨d0, d1, f2, rfl, hR2, -, hO2, b2⟩; have k12 := below_of_alloc b2; have q2 := below_next (below_next q1 (below_new _ _)) b2; obtain ⟨ya, yn, yc, rfl, rfl, -, -⟩ := hR2.rd.shape; have K2 := HS.out _ q2; replace K2 := hide K2
             have hB2 := Blk.under (Blk.new w1 29 #[.int .i64 0, .string ⟨#[]⟩, .string ⟨#[]⟩, .int .i64 0, .int .i64 0, .slice none 0 0, .int .i64 0, .slice none 0 0, .slice none 0 0]) b2; obtain ⟨c0, c1, c2, c3, c4, c5, c6, c7, c8⟩ : _ ∧ _ ∧ _ ∧ _ ∧ _ ∧ _ ∧ _ ∧ _ ∧ _ := ⟨hB2.cell 0, hB2.cell 1, hB2.cell 2, hB2.cell 3, hB2.cell 4, hB2.cell 5, hB2.cell 6, hB2.cell 7, hB2.cell 8⟩; simp at c0 c1 c2 c3 c4 c5 c6 c7 c8; obtain ⟨z0, z1, z2, z3, z4, z5, z6, z7, z8⟩ : _ ∧ _ ∧ _ ∧ _ ∧ _ ∧ _ ∧ _ ∧ _ ∧ _ := ⟨hB2.free 0, hB2.free 1, hB2.free 2, hB2.free 3, hB2.free 4, hB2.free 5, hB2.free 6, hB2.free 7, hB2.free 8⟩; have hne := HN2.out _ b1)))
    all_goals go_wp2_with fail
    all_goals go_meet
    all_goals
      have s12 := k12.size
      have q0 := q1.size
      simp at q0
      have L1 := RT.lt _ _ _ _ hR1
      have L2 := RT.lt _ _ _ _ hR2
      have hA2 := A.under q2
      have hR2' := R.under q2
      have kf := below_next bn q2
      have T1 : TyAt (w.heap.size + 1 + 1) w2 t.type xa xn xc f1 := ⟨RT.keep _ _ _ _ hR1 fun b hb => SameB.of_heap (k12.block b (L1 b hb)), fun b hb => by have := hO1.1 b hb; first | omega | (simp at this; omega)⟩
      have T2 : TyAt (w.heap.size + 1 + 1) w2 t.res ya yn yc f2 := ⟨hR2, fun b hb => by have := hO2.1 b hb; first | omega | (simp at this; omega)⟩
    · refine ⟨w2.heap.size, ⟨xa, xn, xc, ya, yn, yc, none, 0, 0⟩, rfl, LaidM.made (by omega) (Blk.new _ _ _) h0 rfl rfl (T1.fresh (Fresh.of_below (below_new _ _))) (T2.fresh (Fresh.of_below (below_new _ _))) (fun h => by have := L1 _ h; omega) (fun h => by have := L2 _ h; omega), hA2.alloc _, hR2'.alloc _, kf.alloc (by omega) _⟩
    · have n1 : w1.heap.size ∉ f1 := fun h => by have := L1 _ h; omega
      have n2 : w1.heap.size ∉ f2 := fun h => by have := hO2.1 _ h; first | omega | (simp at this; done) | (simp at this; omega)
      have H := LaidM.put (t := { t with args := [] }) (l := ⟨xa, xn, xc, ya, yn, yc, none, 0, 0⟩) (show w.heap.size + 1 + 1 ≤ w1.heap.size by omega) hB2 rfl h0 rfl rfl T1 T2 n1 n2
      have E := putAt_zero w2 w1.heap.size { t with args := [] } ⟨xa, xn, xc, ya, yn, yc, none, 0, 0⟩
      dsimp only at E
      rw [← E]
      exact ⟨_, _, rfl, H, hA2.put (by omega) _ _, hR2'.put (by omega) _ _, putAt_below (by omega) _ _ _ kf⟩
    · have lBS := hBS.lt
      have n1 : w.heap.size + 1 + 1 ∉ f1 := fun h => by have := hO1.1 _ h; first | omega | (simp at this; done) | (simp at this; omega)
      have n2 : w.heap.size + 1 + 1 ∉ f2 := fun h => by have := hO2.1 _ h; first | omega | (simp at this; done) | (simp at this; omega)
      have H := LaidM.put (t := { t with args := [] }) (l := ⟨xa, xn, xc, ya, yn, yc, none, 0, 0⟩) (Nat.le_refl (w.heap.size + 1 + 1)) hB2 rfl h0 rfl rfl T1 T2 n1 n2
      have E := putAt_zero w2 (w.heap.size + 1 + 1) { t with args := [] } ⟨xa, xn, xc, ya, yn, yc, none, 0, 0⟩
      dsimp only at E
      rw [← E]
      exact ⟨_, _, rfl, H, hA2.put (by omega) _ _, hR2'.put (by omega) _ _, putAt_below (by omega) _ _ _ kf⟩
  case rest =>
    obtain ⟨S, l0, rfl, hL0, hA0, hR0, hb0⟩ := hcut
    clear C1 C2 HS kb kb2 HN1 HN2 HBS bn A R
    go_wp2_with fail
    go_loopw [4] (fun i wr => ∃ j : Nat, j ≤ l.an ∧ i = .int .i64 j ∧ (∃ lr, LaidM S (w.heap.size + 1 + 1) wr { t with args := t.args.take j } lr) ∧ Blk wr w.heap.size 29 #[.int .i64 t.kind, .string t.name, .string t.other, .int .i64 t.n, .int .i64 t.type.kind, .slice l.ta l.tn l.tc, .int .i64 t.res.kind, .slice l.ra l.rn l.rc, .slice l.aa l.an l.ac] ∧ Blk wr (w.heap.size + 1) 29 #[.int .i64 0, .string ⟨#[]⟩, .string ⟨#[]⟩, .int .i64 0, .int .i64 0, .slice none 0 0, .int .i64 0, .slice none 0 0, .slice none 0 0] ∧ Below w.heap.size w wr) (fun i _ => l.an - (intOf i).toNat)
    case atStart => exact ⟨0, by omega, rfl, ⟨l0, by simpa using hL0⟩, hA0, hR0, hb0⟩
    case round =>
      clear hL0 hA0 hR0 hb0
      obtain ⟨j, hj, rfl, ⟨lr, hL⟩, hA, hR, hb⟩ := hrel
      have hsz := hb.size
      have hB := hL.box
      obtain ⟨v0, v1, v2, v3, v4, v5, v6, v7, v8⟩ := hA.nine
      by_cases hjn : j < l.an
      · have hjx : j < t.args.length := by rw [← hr.1]; exact hjn
        obtain ⟨b, off, lx, ha, hlt, hc, hd⟩ := (hr.below hb).get j hjx
        obtain ⟨e0, e1, e2, e3, e4, e5, e6, e7, e8⟩ := hc.nine
        clear hc
        have hlen : (t.args.take j).length = j := by rw [List.length_take]; omega
        obtain ⟨hbX, -, hf, cs, f1, f2, f3, h1, h2, hown, h3, hX3, hX1, hX2, hap⟩ := hL
        replace hown : wr.ownsRow (w.heap.size + 1 + 1) 29 9 (.slice lr.aa lr.an lr.ac) j cs := by rw [← hlen]; exact hown
        have hlen := hide hlen
        have hsz1 : t.args[j].wt ≤ 1048576 := Tm.wt_part (List.getElem_mem hjx) hl
        have HBX := hide hB
        have s8 : wr.cell? ⟨S, 8, none⟩ = some (.slice lr.aa lr.an lr.ac) := hB.cell 8
        have lS := hB.lt
        rw [ha] at v8 ⊢
        go_wp2_with fail
        go_region_law (first
          | (go_simp; go_at_call 22; (with_reducible refine (IH.out _ (List.getElem_mem hjx) _ _ (hd.below (below_drew _)) hsz1).mono ?_); rintro e w1 ⟨l1, rfl, hO1, b1⟩; replace b1 : Below wr.heap.size wr w1 := below_next (below_drew _) b1; have s1 := b1.size; have B1 := HBX.out.under b1; have y8 := B1.cell 8; have y8n := fun o => (B1.alloc o).cell 8)
          | (refine step_append_lies _ (by rfl) _ _ _ (by rfl) (w.heap.size + 1 + 1) 29 i0 _ 9 136 Try.underlying27 hi hz0 hz1 hz2 rfl (by omega) (.slice lr.aa lr.an lr.ac) j cs (by rfl) ((own_below hown b1).alloc _) ⟨w1.heap.size, 0, none⟩ 1 1 (tcells t.args[j] l1) (by rfl) (by rfl) (World.news_of_block (cs := #[.int .i64 t.args[j].kind, .string t.args[j].name, .string t.args[j].other, .int .i64 t.args[j].n, .int .i64 t.args[j].type.kind, .slice l1.ta l1.tn l1.tc, .int .i64 t.args[j].res.kind, .slice l1.ra l1.rn l1.rc, .slice l1.aa l1.an l1.ac]) (t := 29) (fr := (0, 0)) (heap_alloc_new w1 _)) (by simp [Value.oneCell', tcells]) (by omega) (by unfold maxLen; omega) (by omega) (by simp; omega) (w1.heap.size + 1) (by simp) ?_; intro gg cap' w2 hown2 hgrow hat hlt2; have hB4 := box_grown (fun g hg => (hap g hg).1) B1 hgrow; have z8 := hB4.cell 8; have x8 := hB4.free 8))
        all_goals
          go_wp2_with fail
          go_roundw
          case rel =>
            obtain ⟨fx, hx, hxf⟩ := hO1.rm
            have hA5 := hA.under b1
            have hR5 := hR.under b1
            have hXg : ∀ X, X < (w.heap.size + 1 + 1) → some X ≠ (Value.slice lr.aa lr.an lr.ac).ownBlock := fun X hX e => by have := (hown.lt X e.symm).1; omega
            have H := LaidM.step (t := { t with args := t.args.take j }) (x := t.args[j]) hbX HBX.out hf hlen.out.symm h1 h2 hown h3 hX3 hX1 hX2 hap (Fresh.of_below b1) hx hxf hown2 hgrow rfl (by simpa using hat)
            refine ⟨j + 1, by omega, by go_num, ⟨_, by rw [take_snoc t.args j hjx]; exact H⟩, ?_, ?_, ?_⟩
            · have h := ((hA5.alloc _).grown hgrow (hXg _ (by omega))).far (p := ⟨S, 8, none⟩) (by simp; omega) (.slice (some ⟨gg, 0, none⟩) (j + 1) cap')
              rw [ha] at h
              exact h
            · exact ((hR5.alloc _).grown hgrow (hXg _ (by omega))).far (p := ⟨S, 8, none⟩) (by simp; omega) _
            · exact (((hb.trans (b1.mono hsz)).alloc (by omega) _).grown hgrow (by simp; omega) fun k hk => by have := (hown.lt k hk).1; omega).setCell (p := ⟨S, 8, none⟩) (by simp; omega) _
          case measure => simp [intOf]; omega
      · have h4 : l.an = t.args.length := hr.1
        replace hL := hL.all (by omega)
        clear hB
        have hB := hL.box
        obtain ⟨s0, s1, s2, s3, s4, s5, s6, s7, s8⟩ := hB.nine
        obtain ⟨q0, q1, q2, q3, q4, q5, q6, q7, q8⟩ : _ ∧ _ ∧ _ ∧ _ ∧ _ ∧ _ ∧ _ ∧ _ ∧ _ := ⟨hR.cell 0, hR.cell 1, hR.cell 2, hR.cell 3, hR.cell 4, hR.cell 5, hR.cell 6, hR.cell 7, hR.cell 8⟩
        simp at q0 q1 q2 q3 q4 q5 q6 q7 q8
        obtain ⟨z0, z1, z2, z3, z4, z5, z6, z7, z8⟩ : _ ∧ _ ∧ _ ∧ _ ∧ _ ∧ _ ∧ _ ∧ _ ∧ _ := ⟨hR.free 0, hR.free 1, hR.free 2, hR.free 3, hR.free 4, hR.free 5, hR.free 6, hR.free 7, hR.free 8⟩
        go_wp2_with fail
        have HO := (hL.own.keep (putAt_fresh (M := w.heap.size + 1) (by omega) (tcells t lr) wr 0)).base (show w.heap.size ≤ w.heap.size + 1 + 1 by omega)
        have HW := putAt_below (M := w.heap.size + 1) (B := w.heap.size) (by omega) (tcells t lr) wr 0 hb
        have HB := (put_box hR rfl t lr).nine
        have E := putAt_zero wr (w.heap.size + 1) t lr
        rw [← E]
        obtain ⟨r0, r1, r2, r3, r4, r5, r6, r7, r8⟩ := HB
        refine bodyPost_ret (v := .agg #[.int .i64 t.kind, .string t.name, .string t.other, .int .i64 t.n, .int .i64 t.type.kind, .slice lr.ta lr.tn lr.tc, .int .i64 t.res.kind, .slice lr.ra lr.rn lr.rc, .slice lr.aa lr.an lr.ac]) ?_ rfl ⟨lr, rfl, HO, HW⟩
        simp [results, Try.results22, go_sem, r0, r1, r2, r3, r4, r5, r6, r7, r8]
end Go.Proofs.Ytmdmnchnkfjpjaa

namespace Go.Proofs.Ytmdmnchnkfjpjaa
open Go.RowKit
set_option maxRecDepth 100000
set_option linter.unusedVariables false
set_option linter.unusedSimpArgs false

/-- What a draw of a term gives. -/
def DrawnM (w : World) (e : Ending) (w' : World) : Prop := ∃ (t : Tm) (l : Lt), e = .returned (.agg #[.int .i64 t.kind, .string t.name, .string t.other, .int .i64 t.n, .int .i64 t.type.kind, .slice l.ta l.tn l.tc, .int .i64 t.res.kind, .slice l.ra l.rn l.rc, .slice l.aa l.an l.ac]) ∧ Md w' t l ∧ t.wt ≤ 100000 ∧ Below w.heap.size w w'
/-- What a draw of two terms gives. -/
def DrawnM2 (w : World) (e : Ending) (w' : World) : Prop := ∃ (t u : Tm) (l m : Lt), e = .returned (.tuple #[.agg #[.int .i64 t.kind, .string t.name, .string t.other, .int .i64 t.n, .int .i64 t.type.kind, .slice l.ta l.tn l.tc, .int .i64 t.res.kind, .slice l.ra l.rn l.rc, .slice l.aa l.an l.ac], .agg #[.int .i64 u.kind, .string u.name, .string u.other, .int .i64 u.n, .int .i64 u.type.kind, .slice m.ta m.tn m.tc, .int .i64 u.res.kind, .slice m.ra m.rn m.rc, .slice m.aa m.an m.ac]]) ∧ Md w' t l ∧ Md w' u m ∧ t.wt ≤ 100000 ∧ u.wt ≤ 100000 ∧ Below w.heap.size w w'

theorem LaidM.rm {X base : Nat} {w : World} {t : Tm} {l : Lt} (h : LaidM X base w t l) : ∃ fp, RM w t l fp ∧ ∀ b ∈ fp, base ≤ b ∧ b ≠ X := by
  obtain ⟨hbX, hB, hi, cs, f1, f2, f3, h1, h2, hown, h3, hX3, hX1, hX2, hap⟩ := h
  have hlen : l.an = t.args.length ∧ l.an ≤ l.ac ∧ l.ac ≤ maxLen := by
    rcases hown.2 with ⟨hv, hn⟩ | ⟨g, cap, cur, hv, hg, hh, hle, hm, hsz, htk⟩
    · injection hv with q1 q2 q3
      rw [q2, q3]
      exact ⟨hn.symm, Nat.le_refl _, by simp⟩
    · injection hv with q1 q2 q3
      rw [q2, q3]
      exact ⟨rfl, hle, hm⟩
  have k1 : ∀ b ∈ f1, base ≤ b ∧ b ≠ X := fun b hb => ⟨h1.2 b hb, fun e => hX1 (by rw [← e]; exact hb)⟩
  have k2 : ∀ b ∈ f2, base ≤ b ∧ b ≠ X := fun b hb => ⟨h2.2 b hb, fun e => hX2 (by rw [← e]; exact hb)⟩
  by_cases hx : t.args = []
  · refine ⟨_, RM.mk (f3 := []) hi hlen h1.1 h2.1 (.inl ⟨hx, rfl⟩), fun b hb => ?_⟩
    rw [List.append_nil] at hb
    exact (List.mem_append.1 hb).elim (k1 b) (k2 b)
  · rcases hown.2 with ⟨hv, hn⟩ | ⟨g, cap, cur, hv, hg, hh, hle, hm, hsz, htk⟩
    · exact absurd (List.length_eq_zero_iff.1 hn) hx
    · have hgX := (hap g (by rw [hv]; rfl)).1
      have hR : RMs w t.args g 0 f3 := RCM_rms h3 fun j u hu => by
        have := hown.cells (g := g) (by rw [hv]; rfl) j u hu
        simpa [Addr.add_lit] using this
      injection hv with q1 q2 q3
      refine ⟨_, RM.mk (f3 := g :: f3) hi hlen h1.1 h2.1 (.inr ⟨hx, g, 0, f3, q1, rfl, hR⟩), fun b hb => ?_⟩
      rcases List.mem_append.1 hb with hb | hb
      · exact k1 b hb
      · rcases List.mem_append.1 hb with hb | hb
        · exact k2 b hb
        · rcases List.mem_cons.1 hb with rfl | hb
          · exact ⟨hg, hgX⟩
          · exact hX3 b hb
/-- A form of one part. -/
def wrapM (k : Int) (t : Tm) : Tm := ⟨k, ⟨#[]⟩, ⟨#[]⟩, 0, ty0, ty0, [t]⟩
def wrapL (g : Nat) : Lt := ⟨none, 0, 0, none, 0, 0, some ⟨g, 0, none⟩, 1, 1⟩
theorem wrapM_wt (k : Int) (t : Tm) : (wrapM k t).wt = 1 + t.wt := by
  rw [wrapM, Tm.wt, Tm.wts, Tm.wts, ty0]
  show (ByteArray.mk #[]).size + (ByteArray.mk #[]).size + Ty.sizes [] + Ty.sizes [] + (1 + t.wt + 0) = 1 + t.wt
  rw [Ty.sizes]
  have : (ByteArray.mk #[]).size = 0 := rfl
  omega
theorem LaidM.wrap {X base : Nat} {w : World} {t : Tm} {l : Lt} (h : LaidM X base w t l) (k : Int) (hk : i64 k) :
    LaidM X base ((putAt w X 0 (tcells (wrapM k t) (wrapL w.heap.size))).alloc (.cells #[.int .i64 t.kind, .string t.name, .string t.other, .int .i64 t.n, .int .i64 t.type.kind, .slice l.ta l.tn l.tc, .int .i64 t.res.kind, .slice l.ra l.rn l.rc, .slice l.aa l.an l.ac] 29)) (wrapM k t) (wrapL w.heap.size) := by
  obtain ⟨fp, hR, hfp⟩ := h.rm
  have hlX := h.lt
  have hsz := putAt_size (M := X) (tcells (wrapM k t) (wrapL w.heap.size)) w 0
  have hB := (put_box h.box rfl (wrapM k t) (wrapL w.heap.size)).alloc (.cells #[.int .i64 t.kind, .string t.name, .string t.other, .int .i64 t.n, .int .i64 t.type.kind, .slice l.ta l.tn l.tc, .int .i64 t.res.kind, .slice l.ra l.rn l.rc, .slice l.aa l.an l.ac] 29)
  have hl := RM.lt _ _ _ hR
  refine ⟨h.1, hB, ⟨hk, by simp [wrapM, i64], Nat.zero_le _, Nat.zero_le _⟩, tcells t l, [], [], fp, TyAt.nil _ _ _ ⟨by omega, by omega⟩, TyAt.nil _ _ _ ⟨by omega, by omega⟩, ?_, ?_, hfp, by simp, by simp, fun g hg => ?_⟩
  · refine ⟨rfl, .inr ⟨w.heap.size, 1, #[.int .i64 t.kind, .string t.name, .string t.other, .int .i64 t.n, .int .i64 t.type.kind, .slice l.ta l.tn l.tc, .int .i64 t.res.kind, .slice l.ra l.rn l.rc, .slice l.aa l.an l.ac], rfl, by have := h.1; omega, ?_, by simp [wrapM], by unfold maxLen; omega, rfl, rfl⟩⟩
    have := heap_alloc_new (putAt w X 0 (tcells (wrapM k t) (wrapL w.heap.size))) (.cells #[.int .i64 t.kind, .string t.name, .string t.other, .int .i64 t.n, .int .i64 t.type.kind, .slice l.ta l.tn l.tc, .int .i64 t.res.kind, .slice l.ra l.rn l.rc, .slice l.aa l.an l.ac] 29)
    rw [hsz] at this
    exact this
  · refine ⟨l, [], fp, [], by simp, by simp, RM.keep _ _ _ hR fun b hb => SameB.of_heap ?_, rfl, rfl⟩
    rw [Below.heap_alloc _ _ _ (by rw [hsz]; exact hl b hb), putAt_heap (hfp b hb).2]
  · have e : w.heap.size = g := Option.some.inj hg
    subst e
    exact ⟨by omega, by simp, by simp, fun hin => by have := hl _ hin; omega⟩

set_option maxHeartbeats 6400000 in
theorem drawIsValidTerm_any (a : Option Addr) (n cap : Nat) (w : World) (h : Rbs w a n cap) : Calls Try.prog 5 #[.slice a n cap] w (DrawnM w) := by
  have B0 := Blk.new w 29 #[.int .i64 0, .string ⟨#[]⟩, .string ⟨#[]⟩, .int .i64 0, .int .i64 0, .slice none 0 0, .int .i64 0, .slice none 0 0, .slice none 0 0]
  go_enter Try.func5, Try.ntmps5
  go_wp2_with fail
  refine (l1New_any a n cap _ (h.below (below_new _ _))).mono ?_
  rintro e w1 ⟨p, rfl, hp, hC, b1⟩
  have B1 := B0.under b1
  simp at hp
  go_wp2_with fail
  refine (l5Bent_any p w1 hC).mono ?_
  rintro e w2 ⟨t, l, rfl, ho, hs, d2⟩
  have lC := hC.lt
  have B2 : Blk w2 w.heap.size _ _ := (d2.block B1.lt (by omega)).trans B1
  have s2 := d2.size
  have L3 := LaidM.of_own ho s2
  have k2 : Below w.heap.size w w2 := (below_of_alloc b1).trans (d2.2.below (by have := b1.size; simp at this; omega) (by simp; omega))
  have B3 := B2.alloc (.cells #[.int .i64 t.kind, .string t.name, .string t.other, .int .i64 t.n, .int .i64 t.type.kind, .slice l.ta l.tn l.tc, .int .i64 t.res.kind, .slice l.ra l.rn l.rc, .slice l.aa l.an l.ac] 29)
  have k3 := below_next k2 (below_new w2 (.cells #[.int .i64 t.kind, .string t.name, .string t.other, .int .i64 t.n, .int .i64 t.type.kind, .slice l.ta l.tn l.tc, .int .i64 t.res.kind, .slice l.ra l.rn l.rc, .slice l.aa l.an l.ac] 29))
  have D3 := d2.trans (Drew.alloc d2.cur (.cells #[.int .i64 t.kind, .string t.name, .string t.other, .int .i64 t.n, .int .i64 t.type.kind, .slice l.ta l.tn l.tc, .int .i64 t.res.kind, .slice l.ra l.rn l.rc, .slice l.aa l.an l.ac] 29))
  have lB2 := B2.lt
  have hw3 : w2.heap.size < (w2.alloc (.cells #[.int .i64 t.kind, .string t.name, .string t.other, .int .i64 t.n, .int .i64 t.type.kind, .slice l.ta l.tn l.tc, .int .i64 t.res.kind, .slice l.ra l.rn l.rc, .slice l.aa l.an l.ac] 29)).heap.size := by simp
  go_wp2_with fail
  generalize w2.alloc (.cells #[.int .i64 t.kind, .string t.name, .string t.other, .int .i64 t.n, .int .i64 t.type.kind, .slice l.ta l.tn l.tc, .int .i64 t.res.kind, .slice l.ra l.rn l.rc, .slice l.aa l.an l.ac] 29) = w3 at L3 B3 k3 D3 hw3 ⊢
  refine (l1Once_any p 8 _ D3.cur (by omega)).mono ?_
  rintro e w4 ⟨b, rfl, d4⟩
  have L4 := L3.keep (d4.fresh (by omega))
  have lB3 := B3.lt
  have B4 : Blk w4 w.heap.size 29 #[.int .i64 0, .string ⟨#[]⟩, .string ⟨#[]⟩, .int .i64 0, .int .i64 0, .slice none 0 0, .int .i64 0, .slice none 0 0, .slice none 0 0] := (d4.block lB3 (by omega)).trans B3
  have k4 : Below w.heap.size w w4 := k3.trans (d4.2.below (by omega) (by simp; omega))
  have hC4 := d4.cur
  have s4 := d4.size
  go_upto_if 12 with fail
  go_cut [] (fun wx => (∃ t l, LaidM w2.heap.size w1.heap.size wx t l ∧ t.wt ≤ 100000) ∧ Blk wx w.heap.size 29 #[.int .i64 0, .string ⟨#[]⟩, .string ⟨#[]⟩, .int .i64 0, .int .i64 0, .slice none 0 0, .int .i64 0, .slice none 0 0, .slice none 0 0] ∧ Below w.heap.size w wx)
  case first =>
    cases b with
    | false =>
      go_wp2_with fail
      go_meet
      exact ⟨⟨t, l, L4, by omega⟩, B4, k4⟩
    | true =>
      go_wp2_with fail
      refine (l1Below_any p 5 _ hC4 (by omega)).mono ?_
      rintro e w5 ⟨y, rfl, hy0, -, d5⟩
      have hy : (y : Int) < 5 := hy0 (by omega)
      have L5 := L4.keep (d5.fresh (by omega))
      have lB4 := B4.lt
      have B5 : Blk w5 w.heap.size 29 #[.int .i64 0, .string ⟨#[]⟩, .string ⟨#[]⟩, .int .i64 0, .int .i64 0, .slice none 0 0, .int .i64 0, .slice none 0 0, .slice none 0 0] := (d5.block lB4 (by omega)).trans B4
      have k5 : Below w.heap.size w w5 := k4.trans (d5.2.below (by omega) (by simp; omega))
      go_wp2_with fail
      go_loopw [6] (fun i wr => ∃ k : Nat, k ≤ 16 + y ∧ i = .int .i64 k ∧ (∃ t l, LaidM w2.heap.size w1.heap.size wr t l ∧ t.wt ≤ 90100 + k) ∧ Blk wr w.heap.size 29 #[.int .i64 0, .string ⟨#[]⟩, .string ⟨#[]⟩, .int .i64 0, .int .i64 0, .slice none 0 0, .int .i64 0, .slice none 0 0, .slice none 0 0] ∧ Below w.heap.size w wr) (fun i _ => 16 + y - (intOf i).toNat)
      case atStart => exact ⟨0, by omega, rfl, ⟨t, l, L5, by omega⟩, B5, k5⟩
      case round =>
        clear L3 L4 L5 B3 B4 B5 k3 k4 k5 ho
        clear hs
        obtain ⟨k, hk, rfl, ⟨t, l, hL, hwt⟩, hR, hb⟩ := hrel
        by_cases hkn : k < 16 + y
        · have hd : decide ((k : Int) < 16 + (y : Int)) = true := by simp; omega
          have hB := hL.box
          obtain ⟨s0, s1, s2, s3, s4, s5, s6, s7, s8⟩ := hB.nine
          obtain ⟨z0, z1, z2, z3, z4, z5, z6, z7, z8⟩ : _ ∧ _ ∧ _ ∧ _ ∧ _ ∧ _ ∧ _ ∧ _ ∧ _ := ⟨hB.free 0, hB.free 1, hB.free 2, hB.free 3, hB.free 4, hB.free 5, hB.free 6, hB.free 7, hB.free 8⟩
          have lX := hB.lt
          have lR := hR.lt
          have hsz := hb.size
          go_wp2_with fail
          go_roundw
          case rel =>
            have H := hL.wrap 13 (by simp [i64])
            have HR := (hR.put (S := w2.heap.size) (by omega) (tcells (wrapM 13 t) (wrapL wr.heap.size)) 0).alloc (.cells #[.int .i64 t.kind, .string t.name, .string t.other, .int .i64 t.n, .int .i64 t.type.kind, .slice l.ta l.tn l.tc, .int .i64 t.res.kind, .slice l.ra l.rn l.rc, .slice l.aa l.an l.ac] 29)
            have HB := (putAt_below (M := w2.heap.size) (B := w.heap.size) (by omega) (tcells (wrapM 13 t) (wrapL wr.heap.size)) _ 0 hb).alloc (by rw [putAt_size]; exact hsz) (.cells #[.int .i64 t.kind, .string t.name, .string t.other, .int .i64 t.n, .int .i64 t.type.kind, .slice l.ta l.tn l.tc, .int .i64 t.res.kind, .slice l.ra l.rn l.rc, .slice l.aa l.an l.ac] 29)
            obtain ⟨W, hW⟩ : ∃ W, W = putAt wr w2.heap.size 0 (tcells (wrapM 13 t) (wrapL wr.heap.size)) := ⟨_, rfl⟩
            rw [← hW] at H HR HB
            rw [putAt_zero] at hW
            dsimp only [wrapM, wrapL, ty0] at hW
            rw [← hW]
            exact ⟨k + 1, by omega, by go_num, ⟨_, _, H, by rw [wrapM_wt]; omega⟩, HR, HB⟩
          case measure => simp [intOf]; omega
        · have hd : decide ((k : Int) < 16 + (y : Int)) = false := by simp; omega
          go_wp2_with fail
          go_meet
          exact ⟨⟨t, l, hL, by omega⟩, hR, hb⟩
  case rest =>
  clear L3 L4 B3 B4 k3 k4 ho hs
  obtain ⟨⟨t, l, hL, hwt⟩, hR, hb⟩ := hcut
  have hB := hL.box
  obtain ⟨s0, s1, s2, s3, s4, s5, s6, s7, s8⟩ := hB.nine
  obtain ⟨q0, q1, q2, q3, q4, q5, q6, q7, q8⟩ : _ ∧ _ ∧ _ ∧ _ ∧ _ ∧ _ ∧ _ ∧ _ ∧ _ := ⟨hR.cell 0, hR.cell 1, hR.cell 2, hR.cell 3, hR.cell 4, hR.cell 5, hR.cell 6, hR.cell 7, hR.cell 8⟩
  simp at q0 q1 q2 q3 q4 q5 q6 q7 q8
  obtain ⟨z0, z1, z2, z3, z4, z5, z6, z7, z8⟩ : _ ∧ _ ∧ _ ∧ _ ∧ _ ∧ _ ∧ _ ∧ _ ∧ _ := ⟨hR.free 0, hR.free 1, hR.free 2, hR.free 3, hR.free 4, hR.free 5, hR.free 6, hR.free 7, hR.free 8⟩
  have lR := hR.lt
  have lB1 := B1.lt
  go_wp2_with fail
  have HO := (hL.own.keep (putAt_fresh (M := w.heap.size) (by omega) (tcells t l) wc 0)).md
  have HW := putAt_below (M := w.heap.size) (B := w.heap.size) (Nat.le_refl _) (tcells t l) wc 0 hb
  have HB := (put_box hR rfl t l).nine
  have E := putAt_zero wc w.heap.size t l
  rw [← E]
  obtain ⟨r0, r1, r2, r3, r4, r5, r6, r7, r8⟩ := HB
  refine bodyPost_ret (v := .agg #[.int .i64 t.kind, .string t.name, .string t.other, .int .i64 t.n, .int .i64 t.type.kind, .slice l.ta l.tn l.tc, .int .i64 t.res.kind, .slice l.ra l.rn l.rc, .slice l.aa l.an l.ac]) ?_ rfl ⟨t, l, rfl, HO, hwt, HW⟩
  simp [results, Try.results5, go_sem, r0, r1, r2, r3, r4, r5, r6, r7, r8]
theorem drawOpArity_any (a : Option Addr) (n cap : Nat) (w : World) (h : Rbs w a n cap) : Calls Try.prog 9 #[.slice a n cap] w fun e w' => ∃ s : ByteArray, e = .returned (.string s) ∧ s.size ≤ 1000 ∧ Below w.heap.size w w' := by
  go_enter Try.func9, Try.ntmps9
  go_wp2_with fail
  refine (l1New_any a n cap _ h).mono ?_
  rintro e w1 ⟨p, rfl, hp, hC, b1⟩
  go_wp2_with fail
  have d2 := Drew.alloc hC (.cells #[.string ⟨#[43]⟩, .string ⟨#[45]⟩, .string ⟨#[42]⟩, .string ⟨#[61]⟩, .string ⟨#[60]⟩, .string ⟨#[38]⟩, .string ⟨#[124]⟩, .string ⟨#[33]⟩, .string ⟨#[]⟩, .string ⟨#[120]⟩, .string ⟨#[43, 43]⟩] 9)
  refine (l1Pick_any p w1.heap.size 11 9 _ _ d2.cur (Blk.new w1 _ _) hC.lt rfl (by omega) (by omega) (strs_of [⟨#[43]⟩, ⟨#[45]⟩, ⟨#[42]⟩, ⟨#[61]⟩, ⟨#[60]⟩, ⟨#[38]⟩, ⟨#[124]⟩, ⟨#[33]⟩, ⟨#[]⟩, ⟨#[120]⟩, ⟨#[43, 43]⟩] (by decide))).mono ?_
  rintro e w2 ⟨z, rfl, hz, -, d3⟩
  go_wp2_with fail
  go_ret
  have d4 := d2.trans d3
  exact ⟨z, rfl, hz, b1.trans (d4.2.below (by have := b1.size; omega) (by simp; omega))⟩
end Go.Proofs.Ytmdmnchnkfjpjaa

namespace Go.Proofs.Ytmdmnchnkfjpjaa
open Go.RowKit
set_option maxRecDepth 100000
set_option linter.unusedVariables false
set_option linter.unusedSimpArgs false

set_option maxHeartbeats 6400000 in
theorem drawEqualTerm_any (a : Option Addr) (n cap : Nat) (w : World) (h : Rbs w a n cap) : Calls Try.prog 8 #[.slice a n cap] w (DrawnM2 w) := by
  have A0 := (Blk.new w 29 #[.int .i64 0, .string ⟨#[]⟩, .string ⟨#[]⟩, .int .i64 0, .int .i64 0, .slice none 0 0, .int .i64 0, .slice none 0 0, .slice none 0 0]).alloc (.cells #[.int .i64 0, .string ⟨#[]⟩, .string ⟨#[]⟩, .int .i64 0, .int .i64 0, .slice none 0 0, .int .i64 0, .slice none 0 0, .slice none 0 0] 29)
  have B0 := Blk.new2 w (.cells #[.int .i64 0, .string ⟨#[]⟩, .string ⟨#[]⟩, .int .i64 0, .int .i64 0, .slice none 0 0, .int .i64 0, .slice none 0 0, .slice none 0 0] 29) 29 #[.int .i64 0, .string ⟨#[]⟩, .string ⟨#[]⟩, .int .i64 0, .int .i64 0, .slice none 0 0, .int .i64 0, .slice none 0 0, .slice none 0 0]
  go_enter Try.func8, Try.ntmps8
  go_wp2_with fail
  refine (l1New_any a n cap _ (h.below (by repeat (first | exact Below.refl _ _ | assumption | refine Below.drew ?_ | refine below_drewN ?_ _ | refine Below.alloc ?_ (by first | omega | (simp; done) | (simp; omega)) _ | refine Below.setCell ?_ (by first | omega | (simp; done) | (simp; omega)) _)))).mono ?_
  rintro e w1 ⟨p, rfl, hp, hC, b1⟩
  have A1 := A0.under b1
  have B1 := B0.under b1
  simp at hp
  go_wp2_with fail
  refine (l5Bent_any p w1 hC).mono ?_
  rintro e w2 ⟨t, l, rfl, ho, hs, d2⟩
  have lC := hC.lt
  have A2 : Blk w2 w.heap.size _ _ := (d2.block A1.lt (by omega)).trans A1
  have B2 : Blk w2 (w.heap.size + 1) _ _ := (d2.block B1.lt (by omega)).trans B1
  have k2 : Below w.heap.size w w2 := (below_of_alloc (below_of_alloc b1)).trans (d2.2.below (by have := b1.size; simp at this; omega) (by simp; omega))
  have l2 := B2.lt
  have s2 := d2.size
  have DX := d2.trans (Drew.alloc d2.cur (.cells #[.int .i64 t.kind, .string t.name, .string t.other, .int .i64 t.n, .int .i64 t.type.kind, .slice l.ta l.tn l.tc, .int .i64 t.res.kind, .slice l.ra l.rn l.rc, .slice l.aa l.an l.ac] 29))
  have BX := Blk.new w2 29 #[.int .i64 t.kind, .string t.name, .string t.other, .int .i64 t.n, .int .i64 t.type.kind, .slice l.ta l.tn l.tc, .int .i64 t.res.kind, .slice l.ra l.rn l.rc, .slice l.aa l.an l.ac]
  have A3 := A2.alloc (.cells #[.int .i64 t.kind, .string t.name, .string t.other, .int .i64 t.n, .int .i64 t.type.kind, .slice l.ta l.tn l.tc, .int .i64 t.res.kind, .slice l.ra l.rn l.rc, .slice l.aa l.an l.ac] 29)
  have B3 := B2.alloc (.cells #[.int .i64 t.kind, .string t.name, .string t.other, .int .i64 t.n, .int .i64 t.type.kind, .slice l.ta l.tn l.tc, .int .i64 t.res.kind, .slice l.ra l.rn l.rc, .slice l.aa l.an l.ac] 29)
  have ho3 := ho.keep (Fresh.of_below (below_new w2 (.cells #[.int .i64 t.kind, .string t.name, .string t.other, .int .i64 t.n, .int .i64 t.type.kind, .slice l.ta l.tn l.tc, .int .i64 t.res.kind, .slice l.ra l.rn l.rc, .slice l.aa l.an l.ac] 29)))
  have k3 := k2.trans ((below_new w2 (.cells #[.int .i64 t.kind, .string t.name, .string t.other, .int .i64 t.n, .int .i64 t.type.kind, .slice l.ta l.tn l.tc, .int .i64 t.res.kind, .slice l.ra l.rn l.rc, .slice l.aa l.an l.ac] 29)).mono (by omega))
  go_wp2_with fail
  refine (l1Once_any p 2 _ DX.cur (by omega)).mono ?_
  rintro e w3 ⟨b, rfl, d3⟩
  have sX := d3.size
  simp at sX
  have A4 : Blk w3 w.heap.size _ _ := (d3.block A3.lt (by omega)).trans A3
  have B4 : Blk w3 (w.heap.size + 1) _ _ := (d3.block B3.lt (by omega)).trans B3
  have X4 : Blk w3 w2.heap.size _ _ := (d3.block BX.lt (by omega)).trans BX
  have ho4 := ho3.keep (d3.fresh (by omega))
  have k4 : Below w.heap.size w w3 := k3.trans (d3.2.below (by simp; omega) (by simp; omega))
  have hC4 := d3.cur
  have hr4 := ho4.md
  have lA := A4.lt
  have lB := B4.lt
  obtain ⟨x0, x1, x2, x3, x4, x5, x6, x7, x8⟩ := X4.nine
  have HA := hide A4
  have HB := hide B4
  have HX := hide X4
  clear A0 A1 A2 A3 B0 B1 B2 B3 BX A4 B4 X4 ho3
  cases b with
  | true =>
    have hC := hide (fun (W : World) (hW : Below w3.heap.size w3 W) => l5Copy_any t l W (hr4.below hW) (by omega))
    go_wp2_with fail
    go_region_law (first
      | (go_simp; go_at_call 22; (with_reducible refine (hC.out _ (below_drew _)).mono ?_); rintro e w4 ⟨l2, rfl, hO, b4⟩; replace b4 : Below w3.heap.size w3 w4 := below_next (below_drew _) b4; have s4 := b4.size; obtain ⟨y0, y1, y2, y3, y4, y5, y6, y7, y8⟩ := (HX.out.under b4).nine; have A5 := HA.out.under b4; have B5 := HB.out.under b4; obtain ⟨p0, p1, p2, p3, p4, p5, p6, p7, p8⟩ : _ ∧ _ ∧ _ ∧ _ ∧ _ ∧ _ ∧ _ ∧ _ ∧ _ := ⟨A5.cell 0, A5.cell 1, A5.cell 2, A5.cell 3, A5.cell 4, A5.cell 5, A5.cell 6, A5.cell 7, A5.cell 8⟩; simp at p0 p1 p2 p3 p4 p5 p6 p7 p8; obtain ⟨f0, f1, f2, f3, f4, f5, f6, f7, f8⟩ : _ ∧ _ ∧ _ ∧ _ ∧ _ ∧ _ ∧ _ ∧ _ ∧ _ := ⟨A5.free 0, A5.free 1, A5.free 2, A5.free 3, A5.free 4, A5.free 5, A5.free 6, A5.free 7, A5.free 8⟩; obtain ⟨q0, q1, q2, q3, q4, q5, q6, q7, q8⟩ : _ ∧ _ ∧ _ ∧ _ ∧ _ ∧ _ ∧ _ ∧ _ ∧ _ := ⟨B5.cell 0, B5.cell 1, B5.cell 2, B5.cell 3, B5.cell 4, B5.cell 5, B5.cell 6, B5.cell 7, B5.cell 8⟩; simp at q0 q1 q2 q3 q4 q5 q6 q7 q8; obtain ⟨g0, g1, g2, g3, g4, g5, g6, g7, g8⟩ : _ ∧ _ ∧ _ ∧ _ ∧ _ ∧ _ ∧ _ ∧ _ ∧ _ := ⟨B5.free 0, B5.free 1, B5.free 2, B5.free 3, B5.free 4, B5.free 5, B5.free 6, B5.free 7, B5.free 8⟩))
    all_goals
      have ho6 := ho4.keep (Fresh.of_below b4)
      have hO2 : OwnM w3.heap.size w4 t l2 := hO
      have k6 : Below w.heap.size w w4 := k4.trans (b4.mono (by omega))
      go_wp2_with fail
      have HA := (Blk.put (put_box A5 rfl t l) (S := w.heap.size + 1) (by omega) (tcells t l2) 0).nine
      have HB := (put_box (B5.put (S := w.heap.size) (by omega) (tcells t l) 0) rfl t l2).nine
      have M1 := ((ho6.keep (putAt_fresh (M := w.heap.size) (by omega) (tcells t l) w4 0)).keep (putAt_fresh (M := w.heap.size + 1) (by omega) (tcells t l2) _ 0)).md
      have M2 := ((hO2.keep (putAt_fresh (M := w.heap.size) (by omega) (tcells t l) w4 0)).keep (putAt_fresh (M := w.heap.size + 1) (by omega) (tcells t l2) _ 0)).md
      have KF := putAt_below (M := w.heap.size + 1) (B := w.heap.size) (by omega) (tcells t l2) _ 0 (putAt_below (M := w.heap.size) (B := w.heap.size) (Nat.le_refl _) (tcells t l) w4 0 k6)
      have E1 := putAt_zero w4 w.heap.size t l
      have E2 := putAt_zero (putAt w4 w.heap.size 0 (tcells t l)) (w.heap.size + 1) t l2
      rw [← E1, ← E2]
      obtain ⟨r0, r1, r2, r3, r4, r5, r6, r7, r8⟩ := HA
      obtain ⟨v0, v1, v2, v3, v4, v5, v6, v7, v8⟩ := HB
      refine bodyPost_ret (v := .tuple #[.agg #[.int .i64 t.kind, .string t.name, .string t.other, .int .i64 t.n, .int .i64 t.type.kind, .slice l.ta l.tn l.tc, .int .i64 t.res.kind, .slice l.ra l.rn l.rc, .slice l.aa l.an l.ac], .agg #[.int .i64 t.kind, .string t.name, .string t.other, .int .i64 t.n, .int .i64 t.type.kind, .slice l2.ta l2.tn l2.tc, .int .i64 t.res.kind, .slice l2.ra l2.rn l2.rc, .slice l2.aa l2.an l2.ac]]) ?_ rfl ⟨t, t, l, l2, rfl, M1, M2, by omega, by omega, KF⟩
      simp [results, Try.results8, go_sem, r0, r1, r2, r3, r4, r5, r6, r7, r8, v0, v1, v2, v3, v4, v5, v6, v7, v8]
  | false =>
    go_wp2_with fail
    go_region_law (first
      | (go_simp; go_at_call 19; (with_reducible refine (l5Bent_any p _ (hC4.below (below_drew _))).mono ?_); rintro e w4 ⟨u, l2, rfl, ho5, hs5, d4⟩; replace ho5 : OwnM w3.heap.size w4 u l2 := ho5; replace d4 : Drew p w3 w4 := Drew.after hC4 (below_drew _) d4; have s4 := d4.size; have X5 : Blk w4 w2.heap.size _ _ := (d4.block HX.out.lt (by omega)).trans HX.out; obtain ⟨y0, y1, y2, y3, y4, y5, y6, y7, y8⟩ := X5.nine; have A5 : Blk w4 w.heap.size _ _ := (d4.block lA (by omega)).trans HA.out; have B5 : Blk w4 (w.heap.size + 1) _ _ := (d4.block lB (by omega)).trans HB.out; obtain ⟨p0, p1, p2, p3, p4, p5, p6, p7, p8⟩ : _ ∧ _ ∧ _ ∧ _ ∧ _ ∧ _ ∧ _ ∧ _ ∧ _ := ⟨A5.cell 0, A5.cell 1, A5.cell 2, A5.cell 3, A5.cell 4, A5.cell 5, A5.cell 6, A5.cell 7, A5.cell 8⟩; simp at p0 p1 p2 p3 p4 p5 p6 p7 p8; obtain ⟨f0, f1, f2, f3, f4, f5, f6, f7, f8⟩ : _ ∧ _ ∧ _ ∧ _ ∧ _ ∧ _ ∧ _ ∧ _ ∧ _ := ⟨A5.free 0, A5.free 1, A5.free 2, A5.free 3, A5.free 4, A5.free 5, A5.free 6, A5.free 7, A5.free 8⟩; obtain ⟨q0, q1, q2, q3, q4, q5, q6, q7, q8⟩ : _ ∧ _ ∧ _ ∧ _ ∧ _ ∧ _ ∧ _ ∧ _ ∧ _ := ⟨B5.cell 0, B5.cell 1, B5.cell 2, B5.cell 3, B5.cell 4, B5.cell 5, B5.cell 6, B5.cell 7, B5.cell 8⟩; simp at q0 q1 q2 q3 q4 q5 q6 q7 q8; obtain ⟨g0, g1, g2, g3, g4, g5, g6, g7, g8⟩ : _ ∧ _ ∧ _ ∧ _ ∧ _ ∧ _ ∧ _ ∧ _ ∧ _ := ⟨B5.free 0, B5.free 1, B5.free 2, B5.free 3, B5.free 4, B5.free 5, B5.free 6, B5.free 7, B5.free 8⟩))
    all_goals
      have ho6 := ho4.keep (d4.fresh (by omega))
      have k6 : Below w.heap.size w w4 := k4.trans (d4.2.below (by omega) (by simp; omega))
      go_wp2_with fail
      have HA := (Blk.put (put_box A5 rfl t l) (S := w.heap.size + 1) (by omega) (tcells u l2) 0).nine
      have HB := (put_box (B5.put (S := w.heap.size) (by omega) (tcells t l) 0) rfl u l2).nine
      have M1 := ((ho6.keep (putAt_fresh (M := w.heap.size) (by omega) (tcells t l) w4 0)).keep (putAt_fresh (M := w.heap.size + 1) (by omega) (tcells u l2) _ 0)).md
      have M2 := ((ho5.keep (putAt_fresh (M := w.heap.size) (by omega) (tcells t l) w4 0)).keep (putAt_fresh (M := w.heap.size + 1) (by omega) (tcells u l2) _ 0)).md
      have KF := putAt_below (M := w.heap.size + 1) (B := w.heap.size) (by omega) (tcells u l2) _ 0 (putAt_below (M := w.heap.size) (B := w.heap.size) (Nat.le_refl _) (tcells t l) w4 0 k6)
      have E1 := putAt_zero w4 w.heap.size t l
      have E2 := putAt_zero (putAt w4 w.heap.size 0 (tcells t l)) (w.heap.size + 1) u l2
      rw [← E1, ← E2]
      obtain ⟨r0, r1, r2, r3, r4, r5, r6, r7, r8⟩ := HA
      obtain ⟨v0, v1, v2, v3, v4, v5, v6, v7, v8⟩ := HB
      refine bodyPost_ret (v := .tuple #[.agg #[.int .i64 t.kind, .string t.name, .string t.other, .int .i64 t.n, .int .i64 t.type.kind, .slice l.ta l.tn l.tc, .int .i64 t.res.kind, .slice l.ra l.rn l.rc, .slice l.aa l.an l.ac], .agg #[.int .i64 u.kind, .string u.name, .string u.other, .int .i64 u.n, .int .i64 u.type.kind, .slice l2.ta l2.tn l2.tc, .int .i64 u.res.kind, .slice l2.ra l2.rn l2.rc, .slice l2.aa l2.an l2.ac]]) ?_ rfl ⟨t, u, l, l2, rfl, M1, M2, by omega, by omega, KF⟩
      simp [results, Try.results8, go_sem, r0, r1, r2, r3, r4, r5, r6, r7, r8, v0, v1, v2, v3, v4, v5, v6, v7, v8]
end Go.Proofs.Ytmdmnchnkfjpjaa
