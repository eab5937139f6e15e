/-
  A box of one's own that holds a term being made: its fields stored, its parts appended.
-/
import Derived.Test.YtklifieahcoljaaGreatLeafM
namespace Go.Proofs.YtklifieahcoljaaGreat
open Go.RowKit
set_option maxRecDepth 100000
set_option linter.unusedVariables false
set_option linter.unusedSimpArgs false

/-- Block X is the box of a term being made; all that it reaches lies from 'base' on, nowhere in the box. -/
def LaidM (X base : Nat) (w : World) (t : Tm) (l : Lt) : Prop := base ≤ X ∧ Blk w X 29 #[.int .i64 t.kind, .string t.name, .string t.other, .int .i64 t.n, .int .i64 t.type.kind, .slice l.ta l.tn l.tc, .int .i64 t.res.kind, .slice l.ra l.rn l.rc, .slice l.aa l.an l.ac] ∧ t.fits ∧
  ∃ cs f1 f2 f3, TyAt base w t.type l.ta l.tn l.tc f1 ∧ TyAt base w t.res l.ra l.rn l.rc f2 ∧ w.ownsRow base 29 9 (.slice l.aa l.an l.ac) t.args.length cs ∧ RCM w t.args cs f3 ∧ (∀ b ∈ f3, base ≤ b ∧ b ≠ X) ∧ X ∉ f1 ∧ X ∉ f2 ∧
    ∀ g, (Value.slice l.aa l.an l.ac).ownBlock = some g → g ≠ X ∧ g ∉ f1 ∧ g ∉ f2 ∧ g ∉ f3
theorem LaidM.box {X base : Nat} {w : World} {t : Tm} {l : Lt} (h : LaidM X base w t l) : Blk w X 29 #[.int .i64 t.kind, .string t.name, .string t.other, .int .i64 t.n, .int .i64 t.type.kind, .slice l.ta l.tn l.tc, .int .i64 t.res.kind, .slice l.ra l.rn l.rc, .slice l.aa l.an l.ac] := h.2.1
theorem LaidM.lt {X base : Nat} {w : World} {t : Tm} {l : Lt} (h : LaidM X base w t l) : X < w.heap.size := h.2.1.lt
theorem LaidM.own {X base : Nat} {w : World} {t : Tm} {l : Lt} (h : LaidM X base w t l) : OwnM base w t l := by
  obtain ⟨hbX, hB, hf, cs, f1, f2, f3, h1, h2, hown, h3, hX3, hX1, hX2, hap⟩ := h
  exact ⟨hf, cs, f1, f2, f3, h1, h2, hown, h3, fun b hb => (hX3 b hb).1, fun g hg => (hap g hg).2⟩
theorem LaidM.keep {X base : Nat} {w w' : World} {t : Tm} {l : Lt} (h : LaidM X base w t l) (hk : Fresh base w w') : LaidM X base w' t l := by
  obtain ⟨hbX, hB, hf, cs, f1, f2, f3, h1, h2, hown, h3, hX3, hX1, hX2, hap⟩ := h
  exact ⟨hbX, (hk.2 X hbX hB.lt).trans hB, hf, cs, f1, f2, f3, h1.fresh hk, h2.fresh hk, own_fresh hown hk, RCM_keep h3 fun b hb => SameB.of_heap (hk.2 b (hX3 b hb).1 (RCM_lt h3 b hb)), hX3, hX1, hX2, hap⟩
/-- A box that has just been made: no parts, no types. -/
theorem LaidM.new {X base : Nat} {w : World} {t : Tm} (hb : base ≤ X) (hB : Blk w X 29 #[.int .i64 t.kind, .string t.name, .string t.other, .int .i64 t.n, .int .i64 t.type.kind, .slice lt0.ta lt0.tn lt0.tc, .int .i64 t.res.kind, .slice lt0.ra lt0.rn lt0.rc, .slice lt0.aa lt0.an lt0.ac]) (hf : t.fits) (h1 : t.type = ty0) (h2 : t.res = ty0) (h3 : t.args = []) : LaidM X base w t lt0 := by
  refine ⟨hb, hB, hf, [], [], [], [], ?_, ?_, ?_, ?_, by simp, by simp, by simp, by simp [Value.ownBlock, lt0]⟩
  · rw [h1]
    exact TyAt.nil _ _ _ ⟨by omega, by omega⟩
  · rw [h2]
    exact TyAt.nil _ _ _ ⟨by omega, by omega⟩
  · rw [h3]
    exact ⟨rfl, .inl ⟨rfl, rfl⟩⟩
  · rw [h3]
    exact ⟨rfl, rfl⟩
/-- A box without parts, its types known. -/
theorem LaidM.made {S base : Nat} {w : World} {t : Tm} {l : Lt} {f1 f2 : List Nat} (hb : base ≤ S) (hB : Blk w S 29 #[.int .i64 t.kind, .string t.name, .string t.other, .int .i64 t.n, .int .i64 t.type.kind, .slice l.ta l.tn l.tc, .int .i64 t.res.kind, .slice l.ra l.rn l.rc, .slice l.aa l.an l.ac]) (hf : t.fits) (h3 : t.args = []) (hl : Value.slice l.aa l.an l.ac = .slice none 0 0)
    (h1 : TyAt base w t.type l.ta l.tn l.tc f1) (h2 : TyAt base w t.res l.ra l.rn l.rc f2) (hS1 : S ∉ f1) (hS2 : S ∉ f2) : LaidM S base w t l := by
  refine ⟨hb, hB, hf, [], f1, f2, [], h1, h2, ?_, ?_, by simp, hS1, hS2, fun g hg => ?_⟩
  · rw [h3, hl]
    exact ⟨rfl, .inl ⟨rfl, rfl⟩⟩
  · rw [h3]
    exact ⟨rfl, rfl⟩
  · rw [hl] at hg
    simp [Value.ownBlock] at hg
theorem TyAt.put {S base : Nat} {w : World} {u : Ty} {a : Option Addr} {n c : Nat} {fp : List Nat} (h : TyAt base w u a n c fp) (hS : S ∉ fp) (vs : List Value) (o : Nat) : TyAt base (putAt w S o vs) u a n c fp :=
  ⟨RT.keep _ _ _ _ h.1 fun b hb => putAt_same (M := S) (b := b) (fun e => hS (by rw [← e]; exact hb)) vs w o, h.2⟩
theorem LaidM.put {S base : Nat} {w : World} {t : Tm} {l : Lt} {f1 f2 : List Nat} {cs : Array Value} (hb : base ≤ S) (hB : Blk w S 29 cs) (h9 : cs.size = 9) (hf : t.fits) (h3 : t.args = []) (hl : Value.slice l.aa l.an l.ac = .slice none 0 0)
    (h1 : TyAt base w t.type l.ta l.tn l.tc f1) (h2 : TyAt base w t.res l.ra l.rn l.rc f2) (hS1 : S ∉ f1) (hS2 : S ∉ f2) : LaidM S base (putAt w S 0 (tcells t l)) t l :=
  LaidM.made hb (put_box hB h9 t l) hf h3 hl (h1.put hS1 _ _) (h2.put hS2 _ _) hS1 hS2
theorem Blk.put {S T X : Nat} {w : World} {cs : Array Value} (h : Blk w X T cs) (hX : X ≠ S) (vs : List Value) (o : Nat) : Blk (putAt w S o vs) X T cs := (putAt_heap hX vs w o).trans h
/-- The box stored to, nothing else: what is known of the rest stays. -/
theorem LaidM.fields {X base : Nat} {w w' : World} {t t' : Tm} {l : Lt} (h : LaidM X base w t l) (hB : Blk w' X 29 #[.int .i64 t'.kind, .string t'.name, .string t'.other, .int .i64 t'.n, .int .i64 t'.type.kind, .slice l.ta l.tn l.tc, .int .i64 t'.res.kind, .slice l.ra l.rn l.rc, .slice l.aa l.an l.ac]) (hk : ∀ b, b ≠ X → w'.heap[b]? = w.heap[b]?) (hf : t'.fits) (e1 : t'.type = t.type) (e2 : t'.res = t.res) (e3 : t'.args = t.args) :
    LaidM X base w' t' l := by
  obtain ⟨hbX, -, -, cs, f1, f2, f3, h1, h2, hown, h3, hX3, hX1, hX2, hap⟩ := h
  refine ⟨hbX, hB, hf, cs, f1, f2, f3, ?_, ?_, ?_, ?_, hX3, hX1, hX2, hap⟩
  · rw [e1]
    exact ⟨RT.keep _ _ _ _ h1.1 fun b hb => SameB.of_heap (hk b fun e => hX1 (e ▸ hb)), h1.2⟩
  · rw [e2]
    exact ⟨RT.keep _ _ _ _ h2.1 fun b hb => SameB.of_heap (hk b fun e => hX2 (e ▸ hb)), h2.2⟩
  · rw [e3]
    refine ⟨hown.1, ?_⟩
    rcases hown.2 with hn | ⟨g, cap, cur, hv, hg, hh, r⟩
    · exact .inl hn
    · exact .inr ⟨g, cap, cur, hv, hg, (hk g (hap g (by rw [hv]; rfl)).1).trans hh, r⟩
  · rw [e3]
    exact RCM_keep h3 fun b hb => SameB.of_heap (hk b (hX3 b hb).2)
theorem LaidM.name {X base : Nat} {w : World} {t : Tm} {l : Lt} (h : LaidM X base w t l) (s : ByteArray) (hs : s.size ≤ 9223372036854775807) : LaidM X base (w.setCell ⟨X, 1, none⟩ (.string s)) { t with name := s } l :=
  h.fields (h.box.set_ 1 (.string s)) (fun b hb => Below.heap_setCell w ⟨X, 1, none⟩ _ b hb) ⟨h.2.2.1.1, h.2.2.1.2.1, hs, h.2.2.1.2.2.2⟩ rfl rfl rfl
theorem LaidM.other {X base : Nat} {w : World} {t : Tm} {l : Lt} (h : LaidM X base w t l) (s : ByteArray) (hs : s.size ≤ 9223372036854775807) : LaidM X base (w.setCell ⟨X, 2, none⟩ (.string s)) { t with other := s } l :=
  h.fields (h.box.set_ 2 (.string s)) (fun b hb => Below.heap_setCell w ⟨X, 2, none⟩ _ b hb) ⟨h.2.2.1.1, h.2.2.1.2.1, h.2.2.1.2.2.1, hs⟩ rfl rfl rfl
theorem LaidM.kind {X base : Nat} {w : World} {t : Tm} {l : Lt} (h : LaidM X base w t l) (k : Int) (hk : i64 k) : LaidM X base (w.setCell ⟨X, 0, none⟩ (.int .i64 k)) { t with kind := k } l :=
  h.fields (h.box.set_ 0 (.int .i64 k)) (fun b hb => Below.heap_setCell w ⟨X, 0, none⟩ _ b hb) ⟨hk, h.2.2.1.2⟩ rfl rfl rfl
theorem LaidM.num {X base : Nat} {w : World} {t : Tm} {l : Lt} (h : LaidM X base w t l) (k : Int) (hk : i64 k) : LaidM X base (w.setCell ⟨X, 3, none⟩ (.int .i64 k)) { t with n := k } l :=
  h.fields (h.box.set_ 3 (.int .i64 k)) (fun b hb => Below.heap_setCell w ⟨X, 3, none⟩ _ b hb) ⟨h.2.2.1.1, hk, h.2.2.1.2.2⟩ rfl rfl rfl
/-- A type stored into the box: it lies where the box and the parts' row do not. -/
theorem LaidM.type {X base : Nat} {w : World} {t : Tm} {l : Lt} (h : LaidM X base w t l) {u : Ty} {a : Option Addr} {n c : Nat} {fp : List Nat} (hu : TyAt base w u a n c fp) (hX : X ∉ fp) (hg : ∀ g, (Value.slice l.aa l.an l.ac).ownBlock = some g → g ∉ fp) :
    LaidM X base ((w.setCell ⟨X, 4, none⟩ (.int .i64 u.kind)).setCell ⟨X, 5, none⟩ (.slice a n c)) { t with type := u } { l with ta := a, tn := n, tc := c } := by
  have hh : ∀ b, b ≠ X → ((w.setCell ⟨X, 4, none⟩ (.int .i64 u.kind)).setCell ⟨X, 5, none⟩ (.slice a n c)).heap[b]? = w.heap[b]? := fun b hb => (Below.heap_setCell _ ⟨X, 5, none⟩ _ b hb).trans (Below.heap_setCell w ⟨X, 4, none⟩ _ b hb)
  obtain ⟨hbX, hB, hf, cs, f1, f2, f3, h1, h2, hown, h3, hX3, hX1, hX2, hap⟩ := h
  refine ⟨hbX, (hB.set_ 4 (.int .i64 u.kind)).set_ 5 (.slice a n c), hf, cs, fp, f2, f3, ⟨RT.keep _ _ _ _ hu.1 fun b hb => SameB.of_heap (hh b fun e => hX (e ▸ hb)), hu.2⟩, ⟨RT.keep _ _ _ _ h2.1 fun b hb => SameB.of_heap (hh b fun e => hX2 (e ▸ hb)), h2.2⟩, ⟨hown.1, ?_⟩,
    RCM_keep h3 fun b hb => SameB.of_heap (hh b (hX3 b hb).2), hX3, hX, hX2, fun g hv => ⟨(hap g hv).1, hg g hv, (hap g hv).2.2⟩⟩
  rcases hown.2 with hn | ⟨g, cap, cur, hv, hg, hh', r⟩
  · exact .inl hn
  · exact .inr ⟨g, cap, cur, hv, hg, (hh g (hap g (by rw [hv]; rfl)).1).trans hh', r⟩
theorem LaidM.res {X base : Nat} {w : World} {t : Tm} {l : Lt} (h : LaidM X base w t l) {u : Ty} {a : Option Addr} {n c : Nat} {fp : List Nat} (hu : TyAt base w u a n c fp) (hX : X ∉ fp) (hg : ∀ g, (Value.slice l.aa l.an l.ac).ownBlock = some g → g ∉ fp) :
    LaidM X base ((w.setCell ⟨X, 6, none⟩ (.int .i64 u.kind)).setCell ⟨X, 7, none⟩ (.slice a n c)) { t with res := u } { l with ra := a, rn := n, rc := c } := by
  have hh : ∀ b, b ≠ X → ((w.setCell ⟨X, 6, none⟩ (.int .i64 u.kind)).setCell ⟨X, 7, none⟩ (.slice a n c)).heap[b]? = w.heap[b]? := fun b hb => (Below.heap_setCell _ ⟨X, 7, none⟩ _ b hb).trans (Below.heap_setCell w ⟨X, 6, none⟩ _ b hb)
  obtain ⟨hbX, hB, hf, cs, f1, f2, f3, h1, h2, hown, h3, hX3, hX1, hX2, hap⟩ := h
  refine ⟨hbX, (hB.set_ 6 (.int .i64 u.kind)).set_ 7 (.slice a n c), hf, cs, f1, fp, f3, ⟨RT.keep _ _ _ _ h1.1 fun b hb => SameB.of_heap (hh b fun e => hX1 (e ▸ hb)), h1.2⟩, ⟨RT.keep _ _ _ _ hu.1 fun b hb => SameB.of_heap (hh b fun e => hX (e ▸ hb)), hu.2⟩, ⟨hown.1, ?_⟩,
    RCM_keep h3 fun b hb => SameB.of_heap (hh b (hX3 b hb).2), hX3, hX1, hX, fun g hv => ⟨(hap g hv).1, (hap g hv).2.1, hg g hv, (hap g hv).2.2.2⟩⟩
  rcases hown.2 with hn | ⟨g, cap, cur, hv, hg, hh', r⟩
  · exact .inl hn
  · exact .inr ⟨g, cap, cur, hv, hg, (hh g (hap g (by rw [hv]; rfl)).1).trans hh', r⟩
/-- One part more. 'grown': the append of a boxed part to the parts' row; then the row's slice stored into the box. -/
theorem LaidM.step {X base g n : Nat} {t x : Tm} {l lx : Lt} {wr w1 w2 : World} {a' : Option Addr} {n' c' : Nat} {cs : List Value} {f1 f2 f3 fx : List Nat} {o : Obj} (hbX : base ≤ X) (hB : Blk wr X 29 #[.int .i64 t.kind, .string t.name, .string t.other, .int .i64 t.n, .int .i64 t.type.kind, .slice l.ta l.tn l.tc, .int .i64 t.res.kind, .slice l.ra l.rn l.rc, .slice l.aa l.an l.ac]) (hf : t.fits) (hn : n = t.args.length)
    (h1 : TyAt base wr t.type l.ta l.tn l.tc f1) (h2 : TyAt base wr t.res l.ra l.rn l.rc f2) (hown : wr.ownsRow base 29 9 (.slice l.aa l.an l.ac) n cs) (h3 : RCM wr t.args cs f3) (hX3 : ∀ b ∈ f3, base ≤ b ∧ b ≠ X) (hX1 : X ∉ f1) (hX2 : X ∉ f2)
    (hap : ∀ g, (Value.slice l.aa l.an l.ac).ownBlock = some g → g ≠ X ∧ g ∉ f1 ∧ g ∉ f2 ∧ g ∉ f3)
    (hF : Fresh base wr w1) (hx : RM w1 x lx fx) (hxf : ∀ b ∈ fx, wr.heap.size ≤ b) (hown2 : w2.ownsRow base 29 9 (.slice a' n' c') (n + 1) (cs ++ tcells x lx)) (hgrow : (w1.alloc o).grownBy w2 (Value.slice l.aa l.an l.ac).ownBlock)
    (hv' : (Value.slice a' n' c').ownBlock = some g) (hat : (Value.slice l.aa l.an l.ac).ownBlock = some g ∨ g = (w1.alloc o).heap.size) :
    LaidM X base (w2.setCell ⟨X, 8, none⟩ (.slice a' n' c')) { t with args := t.args ++ [x] } { l with aa := a', an := n', ac := c' } := by
  have s1 := hF.1
  have hvl := hown.lt
  have hXl := hB.lt
  have lt1 : ∀ y ∈ f1, y < wr.heap.size := RT.lt _ _ _ _ h1.1
  have lt2 : ∀ y ∈ f2, y < wr.heap.size := RT.lt _ _ _ _ h2.1
  have lt3 : ∀ y ∈ f3, y < wr.heap.size := RCM_lt h3
  have ltx : ∀ y ∈ fx, y < w1.heap.size := RM.lt _ _ _ hx
  have far : ∀ y, y ≠ X → (w2.setCell ⟨X, 8, none⟩ (.slice a' n' c')).heap[y]? = w2.heap[y]? := fun y hy => Below.heap_setCell w2 ⟨X, 8, none⟩ (.slice a' n' c') y hy
  have old2 : ∀ y, base ≤ y → y < wr.heap.size → some y ≠ (Value.slice l.aa l.an l.ac).ownBlock → w2.heap[y]? = wr.heap[y]? := fun y hy hlt hne => by
    rw [hgrow.block y (by simp; omega) hne, Below.heap_alloc _ _ _ (by omega), hF.2 y hy hlt]
  have old : ∀ y, base ≤ y → y < wr.heap.size → y ≠ X → some y ≠ (Value.slice l.aa l.an l.ac).ownBlock → (w2.setCell ⟨X, 8, none⟩ (.slice a' n' c')).heap[y]? = wr.heap[y]? := fun y hy hlt hX hne => by
    rw [far y hX, old2 y hy hlt hne]
  have new : ∀ y ∈ fx, (w2.setCell ⟨X, 8, none⟩ (.slice a' n' c')).heap[y]? = w1.heap[y]? := fun y hy => by
    have q1 := hxf y hy
    have q2 := ltx y hy
    rw [far y (by omega), hgrow.block y (by simp; omega) (fun e => by have := (hvl y e.symm).2; omega), Below.heap_alloc _ _ _ q2]
  have hXo : some X ≠ (Value.slice l.aa l.an l.ac).ownBlock := fun e => (hap X e.symm).1 rfl
  have hgX : g ≠ X := by
    rcases hat with h | h
    · exact (hap g h).1
    · simp at h
      omega
  have hB2 : Blk w2 X 29 #[.int .i64 t.kind, .string t.name, .string t.other, .int .i64 t.n, .int .i64 t.type.kind, .slice l.ta l.tn l.tc, .int .i64 t.res.kind, .slice l.ra l.rn l.rc, .slice l.aa l.an l.ac] := (old2 X hbX hXl hXo).trans hB
  refine ⟨hbX, hB2.set_ 8 (.slice a' n' c'), hf, cs ++ tcells x lx, f1, f2, f3 ++ fx, ⟨RT.keep _ _ _ _ h1.1 fun b hb => SameB.of_heap (old b (h1.2 b hb) (lt1 b hb) (fun e => hX1 (e ▸ hb)) fun e => (hap b e.symm).2.1 hb), h1.2⟩,
    ⟨RT.keep _ _ _ _ h2.1 fun b hb => SameB.of_heap (old b (h2.2 b hb) (lt2 b hb) (fun e => hX2 (e ▸ hb)) fun e => (hap b e.symm).2.2.1 hb), h2.2⟩, ?_, ?_, ?_, hX1, hX2, ?_⟩
  · have h : (w2.setCell ⟨X, 8, none⟩ (.slice a' n' c')).ownsRow base 29 9 (.slice a' n' c') (n + 1) (cs ++ tcells x lx) := by
      refine ⟨hown2.1, ?_⟩
      rcases hown2.2 with ⟨h0, _⟩ | ⟨g2, cap, cur, hv2, hg2, hh2, r2⟩
      · rw [h0] at hv'
        simp [Value.ownBlock] at hv'
      · have e : g2 = g := by
          rw [hv2] at hv'
          exact Option.some.inj hv'
        exact .inr ⟨g2, cap, cur, hv2, hg2, (far g2 (by rw [e]; exact hgX)).trans hh2, r2⟩
    simpa [hn] using h
  · exact RCM_snoc (RCM_keep h3 fun b hb => SameB.of_heap (old b (hX3 b hb).1 (lt3 b hb) (hX3 b hb).2 fun e => (hap b e.symm).2.2.2 hb)) (RM.keep _ _ _ hx fun b hb => SameB.of_heap (new b hb))
  · intro b hb
    rcases List.mem_append.1 hb with hb | hb
    · exact hX3 b hb
    · have := hxf b hb
      exact ⟨by omega, by omega⟩
  · intro g' hg'
    have e : g' = g := Option.some.inj (hg'.symm.trans hv')
    subst e
    refine ⟨hgX, ?_⟩
    rcases hat with h | h
    · have hl := hvl g' h
      obtain ⟨-, p1, p2, p3⟩ := hap g' h
      refine ⟨p1, p2, fun hin => ?_⟩
      rcases List.mem_append.1 hin with hin | hin
      · exact p3 hin
      · have := hxf g' hin
        omega
    · simp at h
      refine ⟨fun hin => ?_, fun hin => ?_, fun hin => ?_⟩
      · have := lt1 g' hin
        omega
      · have := lt2 g' hin
        omega
      · rcases List.mem_append.1 hin with hin | hin
        · have := lt3 g' hin
          omega
        · have := ltx g' hin
          omega
/-- Behind an append the box is as it was. -/
theorem box_grown {S : Nat} {w1 w2 : World} {v : Value} {bs : Array Value} {o : Obj} (hg : ∀ g, v.ownBlock = some g → g ≠ S) (hF : Blk w1 S 29 bs) (hgrow : (w1.alloc o).grownBy w2 v.ownBlock) :
    Blk w2 S 29 bs := (hF.alloc o).grown hgrow fun e => hg S e.symm rfl
/-- A term of one's own, stored into a new box. -/
theorem LaidM.of_own {base : Nat} {w : World} {t : Tm} {l : Lt} (h : OwnM base w t l) (hb : base ≤ w.heap.size) : LaidM w.heap.size base (w.alloc (.cells #[.int .i64 t.kind, .string t.name, .string t.other, .int .i64 t.n, .int .i64 t.type.kind, .slice l.ta l.tn l.tc, .int .i64 t.res.kind, .slice l.ra l.rn l.rc, .slice l.aa l.an l.ac] 29)) t l := by
  obtain ⟨hi, cs, f1, f2, f3, h1, h2, hown, h3, hge, hap⟩ := h
  have hF : Fresh base w (w.alloc (.cells #[.int .i64 t.kind, .string t.name, .string t.other, .int .i64 t.n, .int .i64 t.type.kind, .slice l.ta l.tn l.tc, .int .i64 t.res.kind, .slice l.ra l.rn l.rc, .slice l.aa l.an l.ac] 29)) := Fresh.of_below (below_new _ _)
  have k1 := RT.lt _ _ _ _ h1.1
  have k2 := RT.lt _ _ _ _ h2.1
  have k3 := RCM_lt h3
  exact ⟨hb, Blk.new _ _ _, hi, cs, f1, f2, f3, h1.fresh hF, h2.fresh hF, own_fresh hown hF, RCM_keep h3 fun b hb => SameB.of_heap (hF.2 b (hge b hb) (k3 b hb)), fun b hb => ⟨hge b hb, by have := k3 b hb; omega⟩,
    fun h => by have := k1 _ h; omega, fun h => by have := k2 _ h; omega, fun g hg => ⟨by have := (hown.lt g hg).2; omega, hap g hg⟩⟩
theorem Tm.wt_part {t x : Tm} (h : x ∈ t.args) (hw : t.wt ≤ 1048576) : x.wt ≤ 1048576 := by
  obtain ⟨j, hj, rfl⟩ := List.getElem_of_mem h
  have := Tm.wts_take t.args j hj
  have := Tm.wts_take_le t.args (j + 1)
  have := t.wt_eq
  omega
theorem LaidM.all {X base j : Nat} {w : World} {t : Tm} {l : Lt} (h : LaidM X base w { t with args := t.args.take j } l) (hj : t.args.length ≤ j) : LaidM X base w t l := by
  have e : ({ t with args := t.args.take j } : Tm) = t := by
    rw [List.take_of_length_le hj]
    cases t
    rfl
  rw [e] at h
  exact h

theorem OwnM.rm {base : Nat} {w : World} {t : Tm} {l : Lt} (h : OwnM base w t l) : ∃ fp, RM w t l fp ∧ ∀ b ∈ fp, base ≤ b := by
  obtain ⟨hi, cs, f1, f2, f3, h1, h2, hown, h3, hge, hap⟩ := h
  have hlen : l.an = t.args.length ∧ l.an ≤ l.ac ∧ l.ac ≤ maxLen := by
    rcases hown.2 with ⟨hv, hn⟩ | ⟨g, cap, cur, hv, hg, hh, hle, hm, hsz, htk⟩
    · injection hv with q1 q2 q3
      rw [q2, q3]
      exact ⟨hn.symm, Nat.le_refl _, by simp⟩
    · injection hv with q1 q2 q3
      rw [q2, q3]
      exact ⟨rfl, hle, hm⟩
  by_cases hx : t.args = []
  · refine ⟨_, RM.mk (f3 := []) hi hlen h1.1 h2.1 (.inl ⟨hx, rfl⟩), fun b hb => ?_⟩
    rw [List.append_nil] at hb
    exact (List.mem_append.1 hb).elim (h1.2 b) (h2.2 b)
  · rcases hown.2 with ⟨hv, hn⟩ | ⟨g, cap, cur, hv, hg, hh, hle, hm, hsz, htk⟩
    · exact absurd (List.length_eq_zero_iff.1 hn) hx
    · have hR : RMs w t.args g 0 f3 := RCM_rms h3 fun j u hu => by
        have := hown.cells (g := g) (by rw [hv]; rfl) j u hu
        simpa [Addr.add_lit] using this
      injection hv with q1 q2 q3
      refine ⟨_, RM.mk (f3 := g :: f3) hi hlen h1.1 h2.1 (.inr ⟨hx, g, 0, f3, q1, rfl, hR⟩), fun b hb => ?_⟩
      rcases List.mem_append.1 hb with hb | hb
      · exact h1.2 b hb
      · rcases List.mem_append.1 hb with hb | hb
        · exact h2.2 b hb
        · rcases List.mem_cons.1 hb with rfl | hb
          · exact hg
          · exact hge b hb
end Go.Proofs.YtklifieahcoljaaGreat
