/-
  A struct whose second cell is a row of one's own that grows by append: what it reads as, and what one more append makes of it.
-/
import Derived.Test.YtklifieahcoljaaGreatTo
import Derived.Test.YtklifieahcoljaaGreatPlain
import Derived.Deep.AppendLies
import Derived.Deep.RegionLaw
namespace Go.Proofs.YtklifieahcoljaaGreat
open Go.RowKit
set_option linter.unusedVariables false

/-- The cells of a row read as types, two cells each. -/
def RC (w : World) : List Ty → List Value → List Nat → Prop
  | [], cs, fp => cs = [] ∧ fp = []
  | t :: ts, cs, fp => ∃ c0 c1 rest f g, cs = c0 :: c1 :: rest ∧ fp = f ++ g ∧ RT w t c0 c1 f ∧ RC w ts rest g
theorem RC_keep {w w' : World} : ∀ {ts : List Ty} {cs : List Value} {fp : List Nat}, RC w ts cs fp → (∀ b ∈ fp, SameB w w' b) → RC w' ts cs fp
  | [], _, _, h, _ => h
  | t :: ts, _, _, h, hs => by
    obtain ⟨c0, c1, rest, f, g, rfl, rfl, h1, h2⟩ := h
    exact ⟨c0, c1, rest, f, g, rfl, rfl, RT.keep _ _ _ _ h1 fun b hb => hs b (by simp [hb]), RC_keep h2 fun b hb => hs b (by simp [hb])⟩
theorem RC_lt {w : World} : ∀ {ts : List Ty} {cs : List Value} {fp : List Nat}, RC w ts cs fp → ∀ b ∈ fp, b < w.heap.size
  | [], _, _, h, b, hb => by
    obtain ⟨_, rfl⟩ := h
    cases hb
  | t :: ts, _, _, h, b, hb => by
    obtain ⟨c0, c1, rest, f, g, rfl, rfl, h1, h2⟩ := h
    rcases List.mem_append.1 hb with hb | hb
    · exact RT.lt _ _ _ _ h1 b hb
    · exact RC_lt h2 b hb
theorem RC_below {w w' : World} {ts : List Ty} {cs : List Value} {fp : List Nat} (h : RC w ts cs fp) (hb : Below w.heap.size w w') : RC w' ts cs fp :=
  RC_keep h fun b hbf => SameB.of_heap (hb.block b (RC_lt h b hbf))
theorem RC_snoc {w : World} {t : Ty} {c0 c1 : Value} {f : List Nat} : ∀ {ts : List Ty} {cs : List Value} {fp : List Nat}, RC w ts cs fp → RT w t c0 c1 f → RC w (ts ++ [t]) (cs ++ [c0, c1]) (fp ++ f)
  | [], _, _, h, ht => by
    obtain ⟨rfl, rfl⟩ := h
    exact ⟨c0, c1, [], f, [], rfl, by simp, ht, rfl, rfl⟩
  | x :: xs, _, _, h, ht => by
    obtain ⟨d0, d1, rest, f1, g, rfl, rfl, h1, h2⟩ := h
    exact ⟨d0, d1, rest ++ [c0, c1], f1, g ++ f, by simp, by simp, h1, RC_snoc h2 ht⟩
theorem RC_rts {w : World} : ∀ {ts : List Ty} {cs : List Value} {fp : List Nat} {b off : Nat}, RC w ts cs fp → (∀ j u, cs[j]? = some u → w.cell? ⟨b, off + j, none⟩ = some u) → RTs w ts b off fp
  | [], _, _, _, _, h, _ => by
    obtain ⟨_, rfl⟩ := h
    rw [RTs]
  | t :: ts, _, _, b, off, h, hc => by
    obtain ⟨c0, c1, rest, f, g, rfl, rfl, h1, h2⟩ := h
    rw [RTs]
    refine ⟨c0, c1, f, g, rfl, hc 0 _ rfl, hc 1 _ rfl, h1, RC_rts h2 fun j u hu => ?_⟩
    have := hc (j + 2) u (by simpa using hu)
    rwa [show off + (j + 2) = off + 2 + j by omega] at this
theorem RC_len {w : World} : ∀ {ts : List Ty} {cs : List Value} {fp : List Nat}, RC w ts cs fp → cs.length = ts.length * 2
  | [], _, _, h => by
    obtain ⟨rfl, _⟩ := h
    rfl
  | t :: ts, _, _, h => by
    obtain ⟨c0, c1, rest, f, g, rfl, _, _, h2⟩ := h
    have := RC_len h2
    simp only [List.length_cons]
    omega

theorem own_below {w w' : World} {base T size n : Nat} {v : Value} {xs : List Value} (h : w.ownsRow base T size v n xs) (hb : Below w.heap.size w w') : w'.ownsRow base T size v n xs := by
  refine ⟨h.1, ?_⟩
  rcases h.2 with hn | ⟨g, cap, cur, rfl, hg, hh, r⟩
  · exact .inl hn
  · exact .inr ⟨g, cap, cur, rfl, hg, (hb.block g (Array.getElem?_eq_some_iff.1 hh).1).trans hh, r⟩

theorem Blk.new3 (w : World) (o o' : Obj) (t : TypeId) (cs : Array Value) : Blk (((w.alloc o).alloc o').alloc (.cells cs t)) (w.heap.size + 1 + 1) t cs := by
  have h := Blk.new ((w.alloc o).alloc o') t cs
  simpa using h
theorem Blk.grown {w w' : World} {g t : Nat} {cs : Array Value} {row : Option Nat} (h : Blk w g t cs) (hg : w.grownBy w' row) (hne : some g ≠ row) : Blk w' g t cs := (hg.block g h.lt hne).trans h

/-- What has been laid behind some rounds: a struct in block B whose second cell is a row of one's own, which reads as the types ts. -/
def Laid (B base T : Nat) (k : Int) (ts : List Ty) (w : World) : Prop :=
  ∃ v cs fp, Blk w B T #[.int .i64 k, v] ∧ w.ownsRow base T 2 v ts.length cs ∧ RC w ts cs fp ∧ fp.Nodup ∧ Own base w fp ∧ ∀ g, v.ownBlock = some g → g ∉ fp


/-- Behind an append: the struct's block is as it was. -/
theorem laid_box {B base T n : Nat} {k : Int} {wr w1 w2 : World} {v : Value} {cs : List Value} {o : Obj} (hB3 : Blk wr B T #[.int .i64 k, v]) (hown : wr.ownsRow base T 2 v n cs) (hBb : B < base)
    (b1 : Below wr.heap.size wr w1) (hgrow : (w1.alloc o).grownBy w2 v.ownBlock) : Blk w2 B T #[.int .i64 k, v] :=
  ((hB3.under b1).alloc o).grown hgrow fun e => by
    have := (hown.lt B e.symm).1
    omega

/-- One append more. -/
theorem laid_step {B base T n g : Nat} {k : Int} {ts : List Ty} {t : Ty} {wr w1 w2 : World} {v v' d0 d1 : Value} {cs : List Value} {fp f : List Nat} {o : Obj} (hn : n = ts.length)
    (hB3 : Blk wr B T #[.int .i64 k, v]) (hown : wr.ownsRow base T 2 v n cs) (hRC : RC wr ts cs fp) (hnd : fp.Nodup) (hOwn : Own base wr fp) (hap : ∀ g, v.ownBlock = some g → g ∉ fp) (hBb : B < base) (hbs : base ≤ wr.heap.size)
    (b1 : Below wr.heap.size wr w1) (hR1 : RT w1 t d0 d1 f) (hnd1 : f.Nodup) (hO1 : Own wr.heap.size w1 f)
    (hown2 : w2.ownsRow base T 2 v' (n + 1) (cs ++ [d0, d1])) (hgrow : (w1.alloc o).grownBy w2 v.ownBlock) (hv' : v'.ownBlock = some g) (hat : v.ownBlock = some g ∨ g = (w1.alloc o).heap.size) :
    Laid B base T k (ts ++ [t]) (w2.setCell ⟨B, 1, none⟩ v') := by
  have hvl := hown.lt
  have hB2 := laid_box hB3 hown hBb b1 hgrow (k := k)
  have lt1 : ∀ x ∈ fp, x < wr.heap.size := RC_lt hRC
  have lt2 : ∀ x ∈ f, x < w1.heap.size := RT.lt _ _ _ _ hR1
  have s1 := b1.size
  have blk1 : ∀ x ∈ fp, w2.heap[x]? = wr.heap[x]? := fun x hx => by
    have := lt1 x hx
    rw [hgrow.block x (by simp; omega) (fun e => hap x e.symm hx), Below.heap_alloc _ _ _ (by omega), b1.block x this]
  have blk2 : ∀ x ∈ f, w2.heap[x]? = w1.heap[x]? := fun x hx => by
    have h1 := lt2 x hx
    have h2 := hO1.1 x hx
    rw [hgrow.block x (by simp; omega) (fun e => by have := (hvl x e.symm).2; omega), Below.heap_alloc _ _ _ h1]
  have far : ∀ x, base ≤ x → SameB w2 (w2.setCell ⟨B, 1, none⟩ v') x := fun x hx => same_set (p := ⟨B, 1, none⟩) (by simp; omega) v'
  have hle : ∀ x ∈ f, base ≤ x := fun x hx => Nat.le_trans hbs (hO1.1 x hx)
  refine ⟨v', cs ++ [d0, d1], fp ++ f, ?_, ?_, ?_, nodup_join hnd hnd1 lt1 hO1.1, ⟨fun x hx => ?_, Free.append ?_ ?_⟩, fun x hx hin => ?_⟩
  · have h := hB2.set_ 1 v'
    simpa using h
  · have h := ownsRow_setCell_below hown2 (a := ⟨B, 1, none⟩) hBb v'
    simpa [hn] using h
  · refine RC_snoc (RC_keep hRC fun x hx => ?_) (RT.keep _ _ _ _ hR1 fun x hx => ?_)
    · exact (SameB.of_heap (blk1 x hx)).trans (far x (hOwn.1 x hx))
    · exact (SameB.of_heap (blk2 x hx)).trans (far x (hle x hx))
  · rcases List.mem_append.1 hx with hx | hx
    · exact hOwn.1 x hx
    · exact hle x hx
  · intro x hx o
    rw [World.frozen?_setCell, World.frozen?_of_block (a := ⟨x, o, none⟩) (blk1 x hx)]
    exact hOwn.2 x hx o
  · intro x hx o
    rw [World.frozen?_setCell, World.frozen?_of_block (a := ⟨x, o, none⟩) (blk2 x hx)]
    exact hO1.2 x hx o
  · rw [hv'] at hx
    obtain rfl : g = x := Option.some.inj hx
    rcases hat with h | h
    · rcases List.mem_append.1 hin with hin | hin
      · exact hap g h hin
      · have := (hvl g h).2
        have := hO1.1 g hin
        omega
    · simp at h
      rcases List.mem_append.1 hin with hin | hin
      · have := lt1 g hin
        omega
      · have := lt2 g hin
        omega
/-- Another block of the call's own is as it was. -/
theorem laid_keep {B base T T' n M : Nat} {wr w1 w2 : World} {v v' : Value} {cs : List Value} {cs' : Array Value} {o : Obj} (hM : Blk wr M T' cs') (hown : wr.ownsRow base T 2 v n cs) (hMb : M < base) (hMB : M ≠ B)
    (b1 : Below wr.heap.size wr w1) (hgrow : (w1.alloc o).grownBy w2 v.ownBlock) : Blk (w2.setCell ⟨B, 1, none⟩ v') M T' cs' :=
  Blk.far (((hM.under b1).alloc o).grown hgrow fun e => by
    have := (hown.lt M e.symm).1
    omega) (p := ⟨B, 1, none⟩) hMB v'

theorem laid_below {B base T n N : Nat} {w wr w1 w2 : World} {v v' : Value} {cs : List Value} {o : Obj} (hb : Below N w wr) (hown : wr.ownsRow base T 2 v n cs) (hN : N ≤ B) (hB : B < base) (hNw : N ≤ wr.heap.size)
    (b1 : Below wr.heap.size wr w1) (hgrow : (w1.alloc o).grownBy w2 v.ownBlock) : Below N w (w2.setCell ⟨B, 1, none⟩ v') := by
  have s1 := b1.size
  exact (((hb.trans (b1.mono hNw)).alloc (by omega) o).grown hgrow (by simp; omega) fun k hk => by have := (hown.lt k hk).1; omega).setCell (p := ⟨B, 1, none⟩) hN v'

/-- What has been laid, read as one type. -/
theorem laid_RT {B base T : Nat} {k : Int} {ts : List Ty} {w : World} (h : Laid B base T k ts w) (hk : i64 k) :
    ∃ a n c fp, Blk w B T #[.int .i64 k, .slice a n c] ∧ RT w ⟨k, ts⟩ (.int .i64 k) (.slice a n c) fp ∧ fp.Nodup ∧ Own base w fp := by
  obtain ⟨v, cs, fp, hB, hown, hRC, hnd, hOwn, hap⟩ := h
  rcases hown.2 with ⟨rfl, hn⟩ | ⟨g, cap, cur, rfl, hg, hh, hle, hm, hsz, htk⟩
  · have : ts = [] := List.length_eq_zero_iff.1 hn
    subst this
    exact ⟨none, 0, 0, [], hB, by rw [RT]; exact ⟨rfl, hk, none, 0, rfl, by simp, by simp, .inl ⟨rfl, rfl⟩⟩, List.nodup_nil, by simp, Free.nil _⟩
  · have hR : RTs w ts g 0 fp := RC_rts hRC fun j u hu => by
      have := hown.cells (g := g) rfl j u hu
      simpa [Addr.add_lit] using this
    obtain ⟨fp', hT, h1, h2⟩ := RT_of_RTs (cap := cap) hk hle hm hR
    have hgB : Blk w g T cur := hh
    refine ⟨some ⟨g, 0, none⟩, ts.length, cap, fp', hB, hT, ?_, ?_⟩
    · by_cases hx : ts = []
      · rw [h2 hx]; exact List.nodup_nil
      · rw [h1 hx]; exact List.nodup_cons.2 ⟨hap g rfl, hnd⟩
    · by_cases hx : ts = []
      · rw [h2 hx]; exact ⟨by simp, Free.nil _⟩
      · rw [h1 hx]
        refine ⟨fun x hx => ?_, Free.cons hgB.free hOwn.2⟩
        rcases List.mem_cons.1 hx with rfl | hx
        · exact hg
        · exact hOwn.1 x hx
end Go.Proofs.YtklifieahcoljaaGreat
