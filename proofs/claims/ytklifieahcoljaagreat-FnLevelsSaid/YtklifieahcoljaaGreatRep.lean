/-
  How trees lie in memory: the reading of a Go value of 'Type' xs a plain tree, with the list of the blocks that it passes through; what keeps such a reading.
-/
import Derived.Test.YtklifieahcoljaaGreatTree
import Derived.WalkKit
import Derived.Below
import Derived.Deep.Draws
namespace Go.Proofs.YtklifieahcoljaaGreat
open Go.RowKit

/-- A fact kept out of the walk's sight. -/
theorem hide {p : Prop} (h : p) : Hid p := h

theorem ret_int {k : IntKind} {a b : Int} (h : a = b) : Ending.returned (.int k a) = .returned (.int k b) := by rw [h]
theorem ret_bool {a b : Bool} (h : a = b) : Ending.returned (.bool a) = .returned (.bool b) := by rw [h]
theorem ret_string {a b : ByteArray} (h : a = b) : Ending.returned (.string a) = .returned (.string b) := by rw [h]

/-- Block g is just the cells cs of element type t, none frozen. -/
def Blk (w : World) (g : Nat) (t : TypeId) (cs : Array Value) : Prop := w.heap[g]? = some (.cells cs t (0, 0))
section
variable {w w' : World} {g : Nat} {t : TypeId} {cs : Array Value}
theorem Blk.lt (h : Blk w g t cs) : g < w.heap.size := by
  rcases Nat.lt_or_ge g w.heap.size with hlt | hge
  · exact hlt
  · unfold Blk at h
    rw [Array.getElem?_eq_none hge] at h
    cases h
theorem Blk.cell (h : Blk w g t cs) (i : Nat) : w.cell? ⟨g, i, none⟩ = cs[i]? := by
  unfold Blk at h
  simp [World.cell?, h]
theorem Blk.at_ (h : Blk w g t cs) {i : Nat} (hi : i < cs.size) : w.cell? ⟨g, i, none⟩ = some cs[i] := by
  rw [h.cell, Array.getElem?_eq_getElem hi]
theorem Blk.free (h : Blk w g t cs) (i : Nat) : w.frozen? ⟨g, i, none⟩ = false := by
  unfold Blk at h
  simp [World.frozen?, h]
theorem Blk.new (w : World) (t : TypeId) (cs : Array Value) : Blk (w.alloc (.cells cs t)) w.heap.size t cs := heap_alloc_new w _
theorem Blk.new2 (w : World) (o : Obj) (t : TypeId) (cs : Array Value) : Blk ((w.alloc o).alloc (.cells cs t)) (w.heap.size + 1) t cs := by
  have h := Blk.new (w.alloc o) t cs
  simpa using h
theorem Blk.below {B : Nat} (h : Blk w g t cs) (hb : Below B w w') (hg : g < B) : Blk w' g t cs := (hb.block g hg).trans h
theorem Blk.under (h : Blk w g t cs) (hb : Below w.heap.size w w') : Blk w' g t cs := h.below hb h.lt
theorem Blk.set_ (h : Blk w g t cs) (i : Nat) (u : Value) : Blk (w.setCell ⟨g, i, none⟩ u) g t (cs.setIfInBounds i u) := by
  unfold Blk at h ⊢
  simp [World.setCell, Array.getElem?_modify, h]
theorem Blk.far (h : Blk w g t cs) {p : Addr} (hp : g ≠ p.block) (u : Value) : Blk (w.setCell p u) g t cs := (Below.heap_setCell w p u g hp).trans h
theorem Blk.two {c0 c1 : Value} (h : Blk w g t #[c0, c1]) : w.cell? ⟨g, 0, none⟩ = some c0 ∧ w.cell? ⟨g, 1, none⟩ = some c1 := ⟨h.cell 0, h.cell 1⟩
theorem Blk.alloc (h : Blk w g t cs) (o : Obj) : Blk (w.alloc o) g t cs := (Below.heap_alloc w o g h.lt).trans h
theorem Blk.two_new {c0 c1 : Value} (h : Blk w g t #[c0, c1]) : (∀ o, (w.alloc o).cell? ⟨g, 0, none⟩ = some c0) ∧ (∀ o, (w.alloc o).cell? ⟨g, 1, none⟩ = some c1) := ⟨fun o => (h.alloc o).two.1, fun o => (h.alloc o).two.2⟩
end

/-- Old cells and old marks read as before: two rules for the walk. -/
theorem bcell {W w1 : World} (hb : Below W.heap.size W w1) : (∀ b o, b < W.heap.size → w1.cell? ⟨b, o, none⟩ = W.cell? ⟨b, o, none⟩) ∧ (∀ b o, b < W.heap.size → w1.frozen? ⟨b, o, none⟩ = W.frozen? ⟨b, o, none⟩) :=
  ⟨fun b o h => hb.cell (p := ⟨b, o, none⟩) h, fun b o h => hb.frozen (p := ⟨b, o, none⟩) h⟩

/-- Behind a new block: what lay before is as it was. -/
theorem below_of_alloc {w w' : World} {o : Obj} (h : Below (w.alloc o).heap.size (w.alloc o) w') : Below w.heap.size w w' :=
  ((Below.refl _ _).alloc (Nat.le_refl _) o).trans (h.mono (by simp))

theorem below_drewN {B : Nat} {a w : World} (h : Below B a w) (n : Nat) : Below B a (w.drewN n) := ⟨h.os, h.tape, h.output, h.size, h.block⟩
theorem below_next {a b c : World} (h : Below a.heap.size a b) (k : Below b.heap.size b c) : Below a.heap.size a c := h.trans (k.mono h.size)
theorem below_drew (w : World) : Below w.heap.size w w.drew := Below.drew (Below.refl _ _)
theorem below_new (w : World) (o : Obj) : Below w.heap.size w (w.alloc o) := (Below.refl _ _).alloc (Nat.le_refl _) o

/-- A number of Go's 'int'. -/
def i64 (n : Int) : Prop := -9223372036854775808 ≤ n ∧ n ≤ 9223372036854775807

mutual
/-- The two cells c0, c1 read xs a type; 'fp': the blocks that its slices lie in. -/
def RT (w : World) : Ty → Value → Value → List Nat → Prop
  | ⟨k, xs⟩, c0, c1, fp => c0 = .int .i64 k ∧ i64 k ∧ ∃ (a : Option Addr) (cap : Nat), c1 = .slice a xs.length cap ∧ xs.length ≤ cap ∧ cap ≤ maxLen ∧
      ((xs = [] ∧ fp = []) ∨ xs ≠ [] ∧ ∃ b off fps, a = some ⟨b, off, none⟩ ∧ fp = b :: fps ∧ RTs w xs b off fps)
/-- The cells from 'off' on in block b read xs types, two cells each. -/
def RTs (w : World) : List Ty → Nat → Nat → List Nat → Prop
  | [], _, _, fp => fp = []
  | t :: ts, b, off, fp => ∃ c0 c1 f g, fp = f ++ g ∧ w.cell? ⟨b, off, none⟩ = some c0 ∧ w.cell? ⟨b, off + 1, none⟩ = some c1 ∧ RT w t c0 c1 f ∧ RTs w ts b (off + 2) g
end

/-- A slice of types. -/
def RTl (w : World) (xs : List Ty) (v : Value) (fp : List Nat) : Prop :=
  ∃ (a : Option Addr) (cap : Nat), v = .slice a xs.length cap ∧ xs.length ≤ cap ∧ cap ≤ maxLen ∧
      ((xs = [] ∧ fp = []) ∨ xs ≠ [] ∧ ∃ b off fps, a = some ⟨b, off, none⟩ ∧ fp = b :: fps ∧ RTs w xs b off fps)

theorem RT_iff {w : World} {t : Ty} {c0 c1 : Value} {fp : List Nat} : RT w t c0 c1 fp ↔ c0 = .int .i64 t.kind ∧ i64 t.kind ∧ RTl w t.args c1 fp := by
  cases t
  rw [RT]
  rfl

/-- The cells of block b are in w' xs in w. -/
def SameB (w w' : World) (b : Nat) : Prop := ∀ off, w'.cell? ⟨b, off, none⟩ = w.cell? ⟨b, off, none⟩

theorem SameB.of_heap {w w' : World} {b : Nat} (h : w'.heap[b]? = w.heap[b]?) : SameB w w' b := fun off => World.cell?_of_block (w := w) (a := ⟨b, off, none⟩) h

theorem RTs_keep_of {w w' : World} (xs : List Ty) (ih : ∀ t ∈ xs, ∀ c0 c1 fp, RT w t c0 c1 fp → (∀ b ∈ fp, SameB w w' b) → RT w' t c0 c1 fp) :
    ∀ (b off : Nat) (fp : List Nat), RTs w xs b off fp → (∀ o, off ≤ o → o < off + 2 * xs.length → w'.cell? ⟨b, o, none⟩ = w.cell? ⟨b, o, none⟩) → (∀ b ∈ fp, SameB w w' b) → RTs w' xs b off fp := by
  induction xs with
  | nil => intro b off fp h _ _; rw [RTs] at h ⊢; exact h
  | cons t ts its =>
    intro b off fp h hb hf
    rw [RTs] at h ⊢
    obtain ⟨c0, c1, f, g, rfl, h0, h1, ht, hts⟩ := h
    simp only [List.length_cons] at hb
    exact ⟨c0, c1, f, g, rfl, (hb _ (by omega) (by omega)).trans h0, (hb _ (by omega) (by omega)).trans h1, ih t (by simp) _ _ _ ht (fun x hx => hf x (by simp [hx])),
      its (fun u hu => ih u (by simp [hu])) _ _ _ hts (fun o h1 h2 => hb o (by omega) (by omega)) (fun x hx => hf x (by simp [hx]))⟩

/-- A reading is kept by whatever leaves its blocks alone. -/
theorem RT.keep {w w' : World} (t : Ty) : ∀ c0 c1 fp, RT w t c0 c1 fp → (∀ b ∈ fp, SameB w w' b) → RT w' t c0 c1 fp := by
  refine Ty.ind (P := fun t => ∀ c0 c1 fp, RT w t c0 c1 fp → (∀ b ∈ fp, SameB w w' b) → RT w' t c0 c1 fp) ?_ t
  intro k xs ih c0 c1 fp h hf
  rw [RT] at h ⊢
  obtain ⟨h0, hk, a, cap, h1, hl, hm, h⟩ := h
  refine ⟨h0, hk, a, cap, h1, hl, hm, ?_⟩
  rcases h with h | ⟨hne, b, off, fps, ha, hfp, hs⟩
  · exact .inl h
  · subst hfp
    exact .inr ⟨hne, b, off, fps, ha, rfl, RTs_keep_of xs ih b off fps hs (fun o _ _ => hf b (by simp) o) (fun x hx => hf x (by simp [hx]))⟩

theorem RTs.keep {w w' : World} {xs : List Ty} {b off : Nat} {fp : List Nat} (h : RTs w xs b off fp) (hb : SameB w w' b) (hf : ∀ b ∈ fp, SameB w w' b) : RTs w' xs b off fp :=
  RTs_keep_of xs (fun t _ => RT.keep t) b off fp h (fun o _ _ => hb o) hf

theorem RTs.keep_part {w w' : World} {xs : List Ty} {b off : Nat} {fp : List Nat} (h : RTs w xs b off fp) (hb : ∀ o, off ≤ o → o < off + 2 * xs.length → w'.cell? ⟨b, o, none⟩ = w.cell? ⟨b, o, none⟩)
    (hf : ∀ b ∈ fp, SameB w w' b) : RTs w' xs b off fp :=
  RTs_keep_of xs (fun t _ => RT.keep t) b off fp h hb hf

theorem RTs_snoc {w : World} {t : Ty} {c0 c1 : Value} {f : List Nat} : ∀ (xs : List Ty) {b off : Nat} {fp : List Nat}, RTs w xs b off fp →
    w.cell? ⟨b, off + xs.length * 2, none⟩ = some c0 → w.cell? ⟨b, off + xs.length * 2 + 1, none⟩ = some c1 → RT w t c0 c1 f → RTs w (xs ++ [t]) b off (fp ++ f)
  | [], b, off, fp, h, e0, e1, ht => by
    rw [RTs] at h
    subst h
    simp only [List.nil_append, RTs]
    exact ⟨c0, c1, f, [], by simp, by simpa using e0, by simpa using e1, ht, rfl⟩
  | x :: xs, b, off, fp, h, e0, e1, ht => by
    rw [RTs] at h
    obtain ⟨d0, d1, f1, g, rfl, h0, h1, hx, hxs⟩ := h
    rw [List.cons_append, RTs]
    refine ⟨d0, d1, f1, g ++ f, by simp, h0, h1, hx, RTs_snoc xs hxs ?_ ?_ ht⟩
    · rw [← e0]
      congr 2
      simp only [List.length_cons]
      omega
    · rw [← e1]
      congr 2
      simp only [List.length_cons]
      omega

/-- The blocks of a reading are there. -/
theorem lt_of_cell {w : World} {b off : Nat} {c : Value} (h : w.cell? ⟨b, off, none⟩ = some c) : b < w.heap.size := World.block_lt_of_cell? _ _ h

theorem RTs_lt_of {w : World} (xs : List Ty) (ih : ∀ t ∈ xs, ∀ c0 c1 fp, RT w t c0 c1 fp → ∀ b ∈ fp, b < w.heap.size) :
    ∀ (b off : Nat) (fp : List Nat), RTs w xs b off fp → (∀ b ∈ fp, b < w.heap.size) ∧ (xs ≠ [] → b < w.heap.size) := by
  induction xs with
  | nil => intro b off fp h; rw [RTs] at h; subst h; simp
  | cons t ts its =>
    intro b off fp h
    rw [RTs] at h
    obtain ⟨c0, c1, f, g, rfl, h0, h1, ht, hts⟩ := h
    refine ⟨fun x hx => ?_, fun _ => lt_of_cell h0⟩
    rcases List.mem_append.1 hx with hx | hx
    · exact ih t (by simp) _ _ _ ht x hx
    · exact (its (fun u hu => ih u (by simp [hu])) _ _ _ hts).1 x hx

theorem RT.lt {w : World} (t : Ty) : ∀ c0 c1 fp, RT w t c0 c1 fp → ∀ b ∈ fp, b < w.heap.size := by
  refine Ty.ind (P := fun t => ∀ c0 c1 fp, RT w t c0 c1 fp → ∀ b ∈ fp, b < w.heap.size) ?_ t
  intro k xs ih c0 c1 fp h
  rw [RT] at h
  obtain ⟨_, _, a, cap, _, _, _, h⟩ := h
  rcases h with ⟨_, rfl⟩ | ⟨hne, b, off, fps, _, rfl, hs⟩
  · simp
  · have hl := RTs_lt_of xs ih b off fps hs
    intro x hx
    rcases List.mem_cons.1 hx with rfl | hx
    · exact hl.2 hne
    · exact hl.1 x hx

theorem RTs_get {w : World} {xs : List Ty} : ∀ {b off : Nat} {fp : List Nat}, RTs w xs b off fp → ∀ (i : Nat) (hi : i < xs.length),
    ∃ c0 c1 f, w.cell? ⟨b, off + i * 2, none⟩ = some c0 ∧ w.cell? ⟨b, off + i * 2 + 1, none⟩ = some c1 ∧ RT w xs[i] c0 c1 f ∧ ∀ x ∈ f, x ∈ fp := by
  induction xs with
  | nil => intro b off fp h i hi; simp at hi
  | cons t ts ih =>
    intro b off fp h i hi
    rw [RTs] at h
    obtain ⟨c0, c1, f, g, rfl, h0, h1, ht, hts⟩ := h
    cases i with
    | zero => exact ⟨c0, c1, f, by simpa using h0, by simpa using h1, ht, fun x hx => by simp [hx]⟩
    | succ i =>
      obtain ⟨d0, d1, f', e0, e1, ht', hs⟩ := ih hts i (by simpa using hi)
      exact ⟨d0, d1, f', by rw [show off + (i + 1) * 2 = off + 2 + i * 2 by omega]; exact e0, by rw [show off + (i + 1) * 2 + 1 = off + 2 + i * 2 + 1 by omega]; exact e1, ht', fun x hx => by simp [hs x hx]⟩

/-- A value that reads xs a type, by whatever blocks. -/
def Rd (w : World) (t : Ty) (c0 c1 : Value) : Prop := ∃ fp, RT w t c0 c1 fp

/-- A slice value that reads xs types, by whatever blocks: told by its letters. -/
def Rds (w : World) (xs : List Ty) (a : Option Addr) (n cap : Nat) : Prop := n = xs.length ∧ n ≤ cap ∧ cap ≤ maxLen ∧
  (xs = [] ∨ xs ≠ [] ∧ ∃ b off fps, a = some ⟨b, off, none⟩ ∧ RTs w xs b off fps)

theorem RT.rd {w : World} {t : Ty} {c0 c1 : Value} {fp : List Nat} (h : RT w t c0 c1 fp) : Rd w t c0 c1 := ⟨fp, h⟩

theorem Rd.shape {w : World} {t : Ty} {c0 c1 : Value} (h : Rd w t c0 c1) : ∃ a n cap, c0 = .int .i64 t.kind ∧ c1 = .slice a n cap ∧ i64 t.kind ∧ Rds w t.args a n cap := by
  obtain ⟨fp, h⟩ := h
  obtain ⟨k, xs⟩ := t
  rw [RT] at h
  obtain ⟨h0, hk, a, cap, h1, hl, hm, h⟩ := h
  refine ⟨a, xs.length, cap, h0, h1, hk, rfl, hl, hm, ?_⟩
  rcases h with ⟨h, _⟩ | ⟨hne, b, off, fps, ha, _, hs⟩
  · exact .inl h
  · exact .inr ⟨hne, b, off, fps, ha, hs⟩

theorem Rd.mk {w : World} {k : Int} {xs : List Ty} {a : Option Addr} {n cap : Nat} (hk : i64 k) (h : Rds w xs a n cap) : Rd w ⟨k, xs⟩ (.int .i64 k) (.slice a n cap) := by
  obtain ⟨rfl, hl, hm, h⟩ := h
  rcases h with h | ⟨hne, b, off, fps, ha, hs⟩
  · exact ⟨[], by rw [RT]; exact ⟨rfl, hk, a, cap, rfl, hl, hm, .inl ⟨h, rfl⟩⟩⟩
  · exact ⟨b :: fps, by rw [RT]; exact ⟨rfl, hk, a, cap, rfl, hl, hm, .inr ⟨hne, b, off, fps, ha, rfl, hs⟩⟩⟩

theorem Rds.get {w : World} {xs : List Ty} {a : Option Addr} {n cap : Nat} (h : Rds w xs a n cap) (i : Nat) (hi : i < xs.length) :
    ∃ b off c0 c1, a = some ⟨b, off, none⟩ ∧ b < w.heap.size ∧ w.cell? ⟨b, off + i * 2, none⟩ = some c0 ∧ w.cell? ⟨b, off + i * 2 + 1, none⟩ = some c1 ∧ Rd w xs[i] c0 c1 := by
  obtain ⟨_, _, _, h⟩ := h
  rcases h with h | ⟨hne, b, off, fps, ha, hs⟩
  · subst h; simp at hi
  · obtain ⟨c0, c1, f, e0, e1, ht, _⟩ := RTs_get hs i hi
    exact ⟨b, off, c0, c1, ha, lt_of_cell e0, e0, e1, f, ht⟩

theorem Rds.at_ {w : World} {xs : List Ty} {a : Option Addr} {n cap : Nat} (h : Rds w xs a n cap) (i : Nat) (hi : i < xs.length) :
    ∃ b off a' n' cap', a = some ⟨b, off, none⟩ ∧ b < w.heap.size ∧ w.cell? ⟨b, off + i * 2, none⟩ = some (.int .i64 xs[i].kind) ∧ w.cell? ⟨b, off + i * 2 + 1, none⟩ = some (.slice a' n' cap') ∧
      Rd w xs[i] (.int .i64 xs[i].kind) (.slice a' n' cap') := by
  obtain ⟨b, off, c0, c1, ha, hb, e0, e1, hr⟩ := h.get i hi
  obtain ⟨a', n', cap', rfl, rfl, -, -⟩ := hr.shape
  exact ⟨b, off, a', n', cap', ha, hb, e0, e1, hr⟩

theorem RT.below {w w' : World} {t : Ty} {c0 c1 : Value} {fp : List Nat} (h : RT w t c0 c1 fp) (hb : Below w.heap.size w w') : RT w' t c0 c1 fp :=
  RT.keep t _ _ _ h fun b hbf => SameB.of_heap (hb.block b (RT.lt t _ _ _ h b hbf))

theorem Rd.below {w w' : World} {t : Ty} {c0 c1 : Value} (h : Rd w t c0 c1) (hb : Below w.heap.size w w') : Rd w' t c0 c1 :=
  let ⟨fp, h⟩ := h; ⟨fp, h.below hb⟩

theorem Rds.below {w w' : World} {xs : List Ty} {a : Option Addr} {n cap : Nat} (h : Rds w xs a n cap) (hb : Below w.heap.size w w') : Rds w' xs a n cap := by
  obtain ⟨h1, h2, h3, h⟩ := h
  refine ⟨h1, h2, h3, ?_⟩
  rcases h with h | ⟨hne, b, off, fps, ha, hs⟩
  · exact .inl h
  · have hl := RTs_lt_of xs (fun t _ => RT.lt t) b off fps hs
    exact .inr ⟨hne, b, off, fps, ha, hs.keep (SameB.of_heap (hb.block b (hl.2 hne))) fun x hx => SameB.of_heap (hb.block x (hl.1 x hx))⟩

theorem RTs.lt {w : World} {xs : List Ty} {b off : Nat} {fp : List Nat} (h : RTs w xs b off fp) : ∀ x ∈ fp, x < w.heap.size := (RTs_lt_of xs (fun t _ => RT.lt t) b off fp h).1

theorem nodup_join {f g : List Nat} {B : Nat} (hf : f.Nodup) (hg : g.Nodup) (h1 : ∀ b ∈ f, b < B) (h2 : ∀ b ∈ g, B ≤ b) : (f ++ g).Nodup := by
  rw [List.nodup_append]
  refine ⟨hf, hg, fun a ha b hb hab => ?_⟩
  have := h1 a ha
  have := h2 b hb
  omega

theorem same_set {w : World} {b : Nat} {p : Addr} (h : b ≠ p.block) (u : Value) : SameB w (w.setCell p u) b :=
  SameB.of_heap (Below.heap_setCell w p u b h)
theorem SameB.trans {a b c : World} {x : Nat} (h : SameB a b x) (k : SameB b c x) : SameB a c x := fun off => (k off).trans (h off)

/-- One type more laid into a block of the call's own, behind a call that made it. -/
theorem lay_type {wr w' : World} {M k n T : Nat} {xs : List Ty} {cs : Array Value} {fp f : List Nat} {v0 v1 : Value} (hR : RTs wr (xs.take k) M 0 fp) (hb' : Below wr.heap.size wr w') (hM : Blk wr M T cs)
    (hcs : cs.size = n * 2) (hkx : k < xs.length) (hkn : k < n) (hfp : ∀ b ∈ fp, M < b) (hR' : RT w' xs[k] v0 v1 f) (hf' : ∀ b ∈ f, wr.heap.size ≤ b) :
    RTs ((w'.setCell ⟨M, k * 2, none⟩ v0).setCell ⟨M, k * 2 + 1, none⟩ v1) (xs.take (k + 1)) M 0 (fp ++ f) ∧
      ∃ cs', cs'.size = n * 2 ∧ Blk ((w'.setCell ⟨M, k * 2, none⟩ v0).setCell ⟨M, k * 2 + 1, none⟩ v1) M T cs' := by
  have hM' := hM.under hb'
  have hl := hM.lt
  have h1 := (hM'.set_ (k * 2) v0).set_ (k * 2 + 1) v1
  have hlen : (xs.take k).length = k := by simp; omega
  refine ⟨?_, _, by simp [hcs], h1⟩
  have far : ∀ b, M ≠ b → SameB w' ((w'.setCell ⟨M, k * 2, none⟩ v0).setCell ⟨M, k * 2 + 1, none⟩ v1) b := fun b hb =>
    (same_set (p := ⟨M, k * 2, none⟩) (fun e => hb e.symm) v0).trans (same_set (p := ⟨M, k * 2 + 1, none⟩) (fun e => hb e.symm) v1)
  rw [take_snoc xs k hkx]
  refine RTs_snoc (xs.take k) (c0 := v0) (c1 := v1) ?_ ?_ ?_ (RT.keep _ _ _ _ hR' fun b hb => far b (fun e => by have := hf' b hb; omega))
  · refine RTs.keep_part (w := w') (hR.keep (SameB.of_heap (hb'.block _ hl)) fun b hb => SameB.of_heap (hb'.block _ (hR.lt b hb))) (fun o _ ho => ?_) fun b hb => far b (fun e => by have := hfp b hb; omega)
    rw [h1.cell, hM'.cell]
    simp only [Array.getElem?_setIfInBounds]
    rw [if_neg (by omega), if_neg (by omega)]
  · rw [h1.cell, hlen]
    simp only [Array.getElem?_setIfInBounds, Array.size_setIfInBounds, Nat.zero_add]
    rw [if_neg (by omega), if_pos trivial, if_pos (by omega)]
  · rw [h1.cell, hlen]
    simp only [Array.getElem?_setIfInBounds, Array.size_setIfInBounds, Nat.zero_add]
    rw [if_pos trivial, if_pos (by omega)]

/-- The whole value off its parts. -/
theorem RT_of_RTs {w : World} {k : Int} {xs : List Ty} {b off cap : Nat} {fp : List Nat} (hk : i64 k) (hc : xs.length ≤ cap) (hm : cap ≤ maxLen) (h : RTs w xs b off fp) :
    ∃ fp', RT w ⟨k, xs⟩ (.int .i64 k) (.slice (some ⟨b, off, none⟩) xs.length cap) fp' ∧ (xs ≠ [] → fp' = b :: fp) ∧ (xs = [] → fp' = []) := by
  by_cases hx : xs = []
  · exact ⟨[], by rw [RT]; exact ⟨rfl, hk, _, _, rfl, hc, hm, .inl ⟨hx, rfl⟩⟩, fun h => absurd hx h, fun _ => rfl⟩
  · exact ⟨b :: fp, by rw [RT]; exact ⟨rfl, hk, _, _, rfl, hc, hm, .inr ⟨hx, b, off, fp, rfl, rfl, h⟩⟩, fun _ => rfl, fun h => absurd h hx⟩

end Go.Proofs.YtklifieahcoljaaGreat
