/-
  A term of blocks of one's own: its parts in a row of one's own that may grow by append.
-/
import Derived.Test.YtklifieahcoljaaGreatTmTo
import Derived.Test.YtklifieahcoljaaGreatCopyTy
namespace Go.Proofs.YtklifieahcoljaaGreat
open Go.RowKit
set_option maxRecDepth 100000
set_option linter.unusedVariables false
set_option linter.unusedSimpArgs false

/-- The cells of a row read as terms, nine cells each. -/
def RCM (w : World) : List Tm → List Value → List Nat → Prop
  | [], cs, fp => cs = [] ∧ fp = []
  | t :: ts, cs, fp => ∃ l rest f g, cs = tcells t l ++ rest ∧ fp = f ++ g ∧ RM w t l f ∧ RCM w ts rest g
theorem RCM_keep {w w' : World} : ∀ {ts : List Tm} {cs : List Value} {fp : List Nat}, RCM w ts cs fp → (∀ b ∈ fp, SameB w w' b) → RCM w' ts cs fp
  | [], _, _, h, _ => h
  | t :: ts, _, _, h, hs => by
    obtain ⟨l, rest, f, g, rfl, rfl, h1, h2⟩ := h
    exact ⟨l, rest, f, g, rfl, rfl, RM.keep _ _ _ h1 fun b hb => hs b (by simp [hb]), RCM_keep h2 fun b hb => hs b (by simp [hb])⟩
theorem RCM_lt {w : World} : ∀ {ts : List Tm} {cs : List Value} {fp : List Nat}, RCM w ts cs fp → ∀ b ∈ fp, b < w.heap.size
  | [], _, _, h, b, hb => by
    obtain ⟨_, rfl⟩ := h
    cases hb
  | t :: ts, _, _, h, b, hb => by
    obtain ⟨l, rest, f, g, rfl, rfl, h1, h2⟩ := h
    rcases List.mem_append.1 hb with hb | hb
    · exact RM.lt _ _ _ h1 b hb
    · exact RCM_lt h2 b hb
theorem RCM_snoc {w : World} {t : Tm} {l : Lt} {f : List Nat} : ∀ {ts : List Tm} {cs : List Value} {fp : List Nat}, RCM w ts cs fp → RM w t l f → RCM w (ts ++ [t]) (cs ++ tcells t l) (fp ++ f)
  | [], _, _, h, ht => by
    obtain ⟨rfl, rfl⟩ := h
    exact ⟨l, [], f, [], by simp, by simp, ht, rfl, rfl⟩
  | x :: xs, _, _, h, ht => by
    obtain ⟨l1, rest, f1, g, rfl, rfl, h1, h2⟩ := h
    exact ⟨l1, rest ++ tcells t l, f1, g ++ f, by simp, by simp, h1, RCM_snoc h2 ht⟩
theorem RCM_rms {w : World} : ∀ {ts : List Tm} {cs : List Value} {fp : List Nat} {b off : Nat}, RCM w ts cs fp → (∀ j u, cs[j]? = some u → w.cell? ⟨b, off + j, none⟩ = some u) → RMs w ts b off fp
  | [], _, _, _, _, h, _ => by
    obtain ⟨_, rfl⟩ := h
    rw [RMs]
  | t :: ts, _, _, b, off, h, hc => by
    obtain ⟨l, rest, f, g, rfl, rfl, h1, h2⟩ := h
    rw [RMs]
    refine ⟨l, f, g, rfl, fun i v hv => hc i v ?_, h1, RCM_rms h2 fun j u hu => ?_⟩
    · have hi : i < (tcells t l).length := by
        rcases Nat.lt_or_ge i (tcells t l).length with h | h
        · exact h
        · rw [List.getElem?_eq_none h] at hv
          cases hv
      rw [List.getElem?_append_left hi]
      exact hv
    · have := hc (9 + j) u (by
        rw [List.getElem?_append_right (by rw [tcells_len]; omega), tcells_len, show 9 + j - 9 = j by omega]
        exact hu)
      rwa [show off + (9 + j) = off + 9 + j by omega] at this
theorem RCM_len {w : World} : ∀ {ts : List Tm} {cs : List Value} {fp : List Nat}, RCM w ts cs fp → cs.length = ts.length * 9
  | [], _, _, h => by
    obtain ⟨rfl, _⟩ := h
    rfl
  | t :: ts, _, _, h => by
    obtain ⟨l, rest, f, g, rfl, _, _, h2⟩ := h
    have := RCM_len h2
    rw [List.length_append, tcells_len, List.length_cons]
    omega

/-- What holds of a term's own fields. -/
def Tm.fits (t : Tm) : Prop := i64 t.kind ∧ i64 t.n ∧ t.name.size ≤ 9223372036854775807 ∧ t.other.size ≤ 9223372036854775807
/-- A type that lies in blocks from 'base' on. -/
def TyAt (base : Nat) (w : World) (t : Ty) (a : Option Addr) (n c : Nat) (fp : List Nat) : Prop := RT w t (.int .i64 t.kind) (.slice a n c) fp ∧ ∀ b ∈ fp, base ≤ b
/-- Letters that read as a term in blocks from 'base' on, its parts in a row of one's own. -/
def OwnM (base : Nat) (w : World) (t : Tm) (l : Lt) : Prop := t.fits ∧
  ∃ cs f1 f2 f3, TyAt base w t.type l.ta l.tn l.tc f1 ∧ TyAt base w t.res l.ra l.rn l.rc f2 ∧ w.ownsRow base 29 9 (.slice l.aa l.an l.ac) t.args.length cs ∧ RCM w t.args cs f3 ∧ (∀ b ∈ f3, base ≤ b) ∧
    ∀ g, (Value.slice l.aa l.an l.ac).ownBlock = some g → g ∉ f1 ∧ g ∉ f2 ∧ g ∉ f3
theorem TyAt.fresh {base : Nat} {w w' : World} {t : Ty} {a : Option Addr} {n c : Nat} {fp : List Nat} (h : TyAt base w t a n c fp) (hk : Fresh base w w') : TyAt base w' t a n c fp :=
  ⟨RT.keep _ _ _ _ h.1 fun b hb => SameB.of_heap (hk.2 b (h.2 b hb) (RT.lt _ _ _ _ h.1 b hb)), h.2⟩
theorem OwnM.keep {base : Nat} {w w' : World} {t : Tm} {l : Lt} (h : OwnM base w t l) (hk : Fresh base w w') : OwnM base w' t l := by
  obtain ⟨hi, cs, f1, f2, f3, h1, h2, hown, h3, hge, hap⟩ := h
  exact ⟨hi, cs, f1, f2, f3, h1.fresh hk, h2.fresh hk, own_fresh hown hk, RCM_keep h3 fun b hb => SameB.of_heap (hk.2 b (hge b hb) (RCM_lt h3 b hb)), hge, hap⟩
theorem OwnM.base {base base' : Nat} {w : World} {t : Tm} {l : Lt} (h : OwnM base w t l) (hb : base' ≤ base) : OwnM base' w t l := by
  obtain ⟨hi, cs, f1, f2, f3, h1, h2, hown, h3, hge, hap⟩ := h
  refine ⟨hi, cs, f1, f2, f3, ⟨h1.1, fun b h => Nat.le_trans hb (h1.2 b h)⟩, ⟨h2.1, fun b h => Nat.le_trans hb (h2.2 b h)⟩, ⟨hown.1, ?_⟩, h3, fun b h => Nat.le_trans hb (hge b h), hap⟩
  rcases hown.2 with hn | ⟨g, cap, cur, hv, hg, hh, r⟩
  · exact .inl hn
  · exact .inr ⟨g, cap, cur, hv, Nat.le_trans hb hg, hh, r⟩
theorem OwnM.md {base : Nat} {w : World} {t : Tm} {l : Lt} (h : OwnM base w t l) : Md w t l := by
  obtain ⟨hi, cs, f1, f2, f3, h1, h2, hown, h3, hge, hap⟩ := h
  refine Md.mk hi ⟨f1, h1.1⟩ ⟨f2, h2.1⟩ ?_
  rcases hown.2 with ⟨hv, hn⟩ | ⟨g, cap, cur, hv, hg, hh, hle, hm, hsz, htk⟩
  · injection hv with q1 q2 q3
    rw [q1, q2, q3]
    exact ⟨hn.symm, Nat.le_refl _, by simp, .inl (List.length_eq_zero_iff.1 hn)⟩
  · have hR : RMs w t.args g 0 f3 := RCM_rms h3 fun j u hu => by
      have := hown.cells (g := g) (by rw [hv]; rfl) j u hu
      simpa [Addr.add_lit] using this
    injection hv with q1 q2 q3
    rw [q1, q2, q3]
    refine ⟨rfl, hle, hm, ?_⟩
    by_cases hx : t.args = []
    · exact .inl hx
    · exact .inr ⟨hx, g, 0, f3, rfl, hR⟩
theorem OwnM.len {base : Nat} {w : World} {t : Tm} {l : Lt} (h : OwnM base w t l) : l.an = t.args.length := h.md.shape.2.2.2.1
theorem TyAt.nil (base : Nat) (w : World) (k : Int) (hk : i64 k) : TyAt base w ⟨k, []⟩ none 0 0 [] := ⟨by rw [RT]; exact ⟨rfl, hk, none, 0, rfl, Nat.le_refl _, by simp, .inl ⟨rfl, rfl⟩⟩, by simp⟩
/-- The zero type. -/
def ty0 : Ty := ⟨0, []⟩
def lt0 : Lt := ⟨none, 0, 0, none, 0, 0, none, 0, 0⟩
/-- No parts, no types. -/
theorem OwnM.nil (base : Nat) (w : World) (k n : Int) (nm ot : ByteArray) (h : Tm.fits ⟨k, nm, ot, n, ty0, ty0, []⟩) : OwnM base w ⟨k, nm, ot, n, ty0, ty0, []⟩ lt0 :=
  ⟨h, [], [], [], [], TyAt.nil _ _ _ ⟨by omega, by omega⟩, TyAt.nil _ _ _ ⟨by omega, by omega⟩, ⟨rfl, .inl ⟨rfl, rfl⟩⟩, ⟨rfl, rfl⟩, by simp, by simp [Value.ownBlock, lt0]⟩
/-- Other fields of its own. -/
theorem OwnM.fields {base : Nat} {w : World} {t t' : Tm} {l : Lt} (h : OwnM base w t l) (hf : t'.fits) (h1 : t'.type = t.type) (h2 : t'.res = t.res) (h3 : t'.args = t.args) : OwnM base w t' l := by
  refine ⟨hf, ?_⟩
  rw [h1, h2, h3]
  exact h.2
/-- One part more, appended to the row of its parts; its box X is stored to. -/
theorem OwnM.snoc {base g X n : Nat} {t x : Tm} {l lx : Lt} {wr w1 w2 : World} {a' : Option Addr} {n' c' : Nat} {cs : List Value} {f1 f2 f3 fx : List Nat} {o : Obj} (hf : t.fits) (hn : n = t.args.length)
    (h1 : TyAt base wr t.type l.ta l.tn l.tc f1) (h2 : TyAt base wr t.res l.ra l.rn l.rc f2) (hown : wr.ownsRow base 29 9 (.slice l.aa l.an l.ac) n cs) (h3 : RCM wr t.args cs f3) (hge : ∀ b ∈ f3, base ≤ b)
    (hap : ∀ g, (Value.slice l.aa l.an l.ac).ownBlock = some g → g ∉ f1 ∧ g ∉ f2 ∧ g ∉ f3) (hX : X < base) (hbs : base ≤ wr.heap.size)
    (hF : Fresh base wr w1) (hx : RM w1 x lx fx) (hxf : ∀ b ∈ fx, wr.heap.size ≤ b) (hown2 : w2.ownsRow base 29 9 (.slice a' n' c') (n + 1) (cs ++ tcells x lx)) (hgrow : (w1.alloc o).grownBy w2 (Value.slice l.aa l.an l.ac).ownBlock)
    (hv' : (Value.slice a' n' c').ownBlock = some g) (hat : (Value.slice l.aa l.an l.ac).ownBlock = some g ∨ g = (w1.alloc o).heap.size) :
    OwnM base (w2.setCell ⟨X, 8, none⟩ (.slice a' n' c')) { t with args := t.args ++ [x] } { l with aa := a', an := n', ac := c' } := by
  have s1 := hF.1
  have hvl := hown.lt
  have lt1 : ∀ y ∈ f1, y < wr.heap.size := RT.lt _ _ _ _ h1.1
  have lt2 : ∀ y ∈ f2, y < wr.heap.size := RT.lt _ _ _ _ h2.1
  have lt3 : ∀ y ∈ f3, y < wr.heap.size := RCM_lt h3
  have ltx : ∀ y ∈ fx, y < w1.heap.size := RM.lt _ _ _ hx
  have far : ∀ y, base ≤ y → (w2.setCell ⟨X, 8, none⟩ (.slice a' n' c')).heap[y]? = w2.heap[y]? := fun y hy => Below.heap_setCell w2 ⟨X, 8, none⟩ (.slice a' n' c') y (by simp; omega)
  have old : ∀ y, base ≤ y → y < wr.heap.size → some y ≠ (Value.slice l.aa l.an l.ac).ownBlock → (w2.setCell ⟨X, 8, none⟩ (.slice a' n' c')).heap[y]? = wr.heap[y]? := fun y hy hlt hne => by
    rw [far y hy, hgrow.block y (by simp; omega) hne, Below.heap_alloc _ _ _ (by omega), hF.2 y hy hlt]
  have new : ∀ y ∈ fx, (w2.setCell ⟨X, 8, none⟩ (.slice a' n' c')).heap[y]? = w1.heap[y]? := fun y hy => by
    have q1 := hxf y hy
    have q2 := ltx y hy
    rw [far y (by omega), hgrow.block y (by simp; omega) (fun e => by have := (hvl y e.symm).2; omega), Below.heap_alloc _ _ _ q2]
  refine ⟨hf, cs ++ tcells x lx, f1, f2, f3 ++ fx, ⟨RT.keep _ _ _ _ h1.1 fun b hb => SameB.of_heap (old b (h1.2 b hb) (lt1 b hb) fun e => (hap b e.symm).1 hb), h1.2⟩,
    ⟨RT.keep _ _ _ _ h2.1 fun b hb => SameB.of_heap (old b (h2.2 b hb) (lt2 b hb) fun e => (hap b e.symm).2.1 hb), h2.2⟩, ?_, ?_, ?_, ?_⟩
  · have h := ownsRow_setCell_below hown2 (a := ⟨X, 8, none⟩) hX (.slice a' n' c')
    simpa [hn] using h
  · exact RCM_snoc (RCM_keep h3 fun b hb => SameB.of_heap (old b (hge b hb) (lt3 b hb) fun e => (hap b e.symm).2.2 hb)) (RM.keep _ _ _ hx fun b hb => SameB.of_heap (new b hb))
  · intro b hb
    rcases List.mem_append.1 hb with hb | hb
    · exact hge b hb
    · have := hxf b hb
      omega
  · intro g' hg'
    have e : g' = g := Option.some.inj (hg'.symm.trans hv')
    subst e
    rcases hat with h | h
    · have hl := hvl g' h
      obtain ⟨p1, p2, p3⟩ := hap g' h
      refine ⟨p1, p2, fun hin => ?_⟩
      rcases List.mem_append.1 hin with hin | hin
      · exact p3 hin
      · have := hxf g' hin
        omega
    · simp at h
      refine ⟨fun hin => ?_, fun hin => ?_, fun hin => ?_⟩
      · have := lt1 g' hin
        omega
      · have := lt2 g' hin
        omega
      · rcases List.mem_append.1 hin with hin | hin
        · have := lt3 g' hin
          omega
        · have := ltx g' hin
          omega
/-- What a call gives that makes a term. -/
def GivesM (w : World) (t : Tm) (e : Ending) (w' : World) : Prop := ∃ l, e = .returned (.agg #[.int .i64 t.kind, .string t.name, .string t.other, .int .i64 t.n, .int .i64 t.type.kind, .slice l.ta l.tn l.tc, .int .i64 t.res.kind, .slice l.ra l.rn l.rc, .slice l.aa l.an l.ac]) ∧ OwnM w.heap.size w' t l ∧ Below w.heap.size w w'
theorem OwnTy.tyAt {base : Nat} {w : World} {t : Ty} {a : Option Addr} {n c : Nat} (h : OwnTy base w t (.slice a n c)) : ∃ fp, TyAt base w t a n c fp := by
  obtain ⟨k, ts⟩ := t
  obtain ⟨hi, cs, fp, hown, hRC, hge, hap⟩ := h
  rcases hown.2 with ⟨hv, hn⟩ | ⟨g, cap, cur, hv, hg, hh, hle, hm, hsz, htk⟩
  · have : ts = [] := List.length_eq_zero_iff.1 hn
    subst this
    injection hv with q1 q2 q3
    subst q1 q2 q3
    exact ⟨[], TyAt.nil _ _ _ hi⟩
  · have hR : RTs w ts g 0 fp := RC_rts hRC fun j u hu => by
      have := hown.cells (g := g) (by rw [hv]; rfl) j u hu
      simpa [Addr.add_lit] using this
    injection hv with q1 q2 q3
    subst q1 q2 q3
    obtain ⟨fp', hT, h1, h2⟩ := RT_of_RTs (cap := c) hi hle hm hR
    refine ⟨fp', hT, fun b hb => ?_⟩
    by_cases hx : ts = []
    · rw [h2 hx] at hb
      cases hb
    · rw [h1 hx] at hb
      rcases List.mem_cons.1 hb with rfl | hb
      · exact hg
      · exact hge b hb
end Go.Proofs.YtklifieahcoljaaGreat
