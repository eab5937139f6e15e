/-
  The walks of toTerm and toTermS: a copy of a term in new memory.
-/
import Derived.Test.YtklifieahcoljaaGreatTmSz
import Derived.Test.YtklifieahcoljaaGreatTo
namespace Go.Proofs.YtklifieahcoljaaGreat
open Go.RowKit
set_option linter.unusedVariables false
set_option linter.unusedSimpArgs false

/-- These cells stored one behind the other. -/
def putAt (w : World) (M o : Nat) : List Value → World
  | [] => w
  | v :: vs => putAt (w.setCell ⟨M, o, none⟩ v) M (o + 1) vs
theorem putAt_same {M b : Nat} (hb : b ≠ M) : ∀ (vs : List Value) (w : World) (o : Nat), SameB w (putAt w M o vs) b
  | [], w, o => fun _ => rfl
  | v :: vs, w, o => (same_set (p := ⟨M, o, none⟩) hb v).trans (putAt_same hb vs _ _)
theorem putAt_frozen {M : Nat} : ∀ (vs : List Value) (w : World) (o : Nat) (p : Addr), (putAt w M o vs).frozen? p = w.frozen? p
  | [], w, o, p => rfl
  | v :: vs, w, o, p => (putAt_frozen vs _ _ p).trans (World.frozen?_setCell _ _ _ _)
theorem putAt_below {M B : Nat} {a : World} (hB : B ≤ M) : ∀ (vs : List Value) (w : World) (o : Nat), Below B a w → Below B a (putAt w M o vs)
  | [], w, o, h => h
  | v :: vs, w, o, h => putAt_below hB vs _ _ (h.setCell (p := ⟨M, o, none⟩) hB v)
theorem putAt_free {M : Nat} {fp : List Nat} {w : World} (h : Free w fp) (vs : List Value) (o : Nat) : Free (putAt w M o vs) fp := fun b hb x => (putAt_frozen vs w o _).trans (h b hb x)
theorem putAt_blk {M T : Nat} : ∀ (vs : List Value) (w : World) (o : Nat) (cs : Array Value), Blk w M T cs →
    ∃ cs', cs'.size = cs.size ∧ Blk (putAt w M o vs) M T cs' ∧ (∀ i, i < vs.length → o + i < cs.size → cs'[o + i]? = vs[i]?) ∧ (∀ i, i < o → cs'[i]? = cs[i]?)
  | [], w, o, cs, h => ⟨cs, rfl, h, fun i hi => by simp at hi, fun i _ => rfl⟩
  | v :: vs, w, o, cs, h => by
    obtain ⟨cs', hs, hB, h1, h2⟩ := putAt_blk vs _ (o + 1) _ (h.set_ o v)
    have hs' : (cs.setIfInBounds o v).size = cs.size := Array.size_setIfInBounds
    refine ⟨cs', hs.trans hs', hB, fun i hi hlt => ?_, fun i hi => ?_⟩
    · cases i with
      | zero =>
        rw [Nat.add_zero, h2 o (by omega)]
        rw [Array.getElem?_setIfInBounds_self_of_lt (by omega)]
        rfl
      | succ i =>
        rw [show o + (i + 1) = o + 1 + i by omega, h1 i (by simpa using hi) (by rw [hs']; omega)]
        rfl
    · rw [h2 i (by omega), Array.getElem?_setIfInBounds_ne (by omega)]

theorem putAt_tcells (w : World) (M o : Nat) (t : Tm) (l : Lt) : putAt w M o (tcells t l) =
    ((((((((w.setCell ⟨M, o, none⟩ (.int .i64 t.kind)).setCell ⟨M, o + 1, none⟩ (.string t.name)).setCell ⟨M, o + 2, none⟩ (.string t.other)).setCell ⟨M, o + 3, none⟩ (.int .i64 t.n)).setCell ⟨M, o + 4, none⟩ (.int .i64 t.type.kind)).setCell
      ⟨M, o + 5, none⟩ (.slice l.ta l.tn l.tc)).setCell ⟨M, o + 6, none⟩ (.int .i64 t.res.kind)).setCell ⟨M, o + 7, none⟩ (.slice l.ra l.rn l.rc)).setCell ⟨M, o + 8, none⟩ (.slice l.aa l.an l.ac) := rfl
/-- One term more laid into a block of the call's own, behind a call that made it. -/
theorem lay_term {wr w' : World} {M k n T : Nat} {xs : List Tm} {cs : Array Value} {fp f : List Nat} {l : Lt} (hR : RMs wr (xs.take k) M 0 fp) (hb' : Below wr.heap.size wr w') (hM : Blk wr M T cs)
    (hcs : cs.size = n * 9) (hkx : k < xs.length) (hkn : k < n) (hfp : ∀ b ∈ fp, M < b) (hR' : RM w' xs[k] l f) (hf' : ∀ b ∈ f, wr.heap.size ≤ b) :
    RMs (putAt w' M (k * 9) (tcells xs[k] l)) (xs.take (k + 1)) M 0 (fp ++ f) ∧ ∃ cs', cs'.size = n * 9 ∧ Blk (putAt w' M (k * 9) (tcells xs[k] l)) M T cs' := by
  have hM' := hM.under hb'
  have hl := hM.lt
  obtain ⟨cs', hs, hB, h1, h2⟩ := putAt_blk (tcells xs[k] l) w' (k * 9) cs hM'
  have hlk : (xs.take k).length = k := by rw [List.length_take]; omega
  refine ⟨?_, cs', hs.trans hcs, hB⟩
  rw [take_snoc xs k hkx]
  refine RMs_snoc (l := l) _ ?_ ?_ ?_
  · refine hR.keep_part (fun o _ ho => ?_) fun b hb => ?_
    · rw [hB.cell, hM.cell, h2 o (by rw [hlk] at ho; omega)]
    · have := hfp b hb
      exact (SameB.of_heap (hb'.block b (hR.lt b hb))).trans (putAt_same (by omega) _ _ _)
  · rw [hlk, Nat.zero_add]
    intro i v hv
    have hi : i < 9 := by
      rcases Nat.lt_or_ge i 9 with h | h
      · exact h
      · rw [List.getElem?_eq_none (by rw [tcells_len]; exact h)] at hv
        cases hv
    rw [hB.cell, h1 i (by rw [tcells_len]; exact hi) (by omega), hv]
  · refine RM.keep _ _ _ hR' fun b hb => putAt_same ?_ _ _ _
    have := hf' b hb
    omega

/-- What toTerm gives: the same tree in blocks of its own, all of them new. -/
def CopiedM (w : World) (t : Tm) (e : Ending) (w' : World) : Prop :=
  ∃ l fp, e = .returned (.agg #[.int .i64 t.kind, .string t.name, .string t.other, .int .i64 t.n, .int .i64 t.type.kind, .slice l.ta l.tn l.tc, .int .i64 t.res.kind, .slice l.ra l.rn l.rc, .slice l.aa l.an l.ac]) ∧ RM w' t l fp ∧ fp.Nodup ∧ Own w.heap.size w' fp ∧ Below w.heap.size w w'
def CopiedMS (w : World) (xs : List Tm) (e : Ending) (w' : World) : Prop :=
  ∃ g fp, e = .returned (.slice (some ⟨g, 0, none⟩) xs.length xs.length) ∧ RMs w' xs g 0 fp ∧ (g :: fp).Nodup ∧ Own w.heap.size w' (g :: fp) ∧ Below w.heap.size w w'

theorem Tryz.infoTerm : (Tryz.prog.info? 29).map (fun i => (i.zero, i.size, i.bytes)) = some (some (.agg #[.int .i64 0, .string ⟨#[]⟩, .string ⟨#[]⟩, .int .i64 0, .int .i64 0, .slice none 0 0, .int .i64 0, .slice none 0 0, .slice none 0 0]), 9, 136) := by kernel_rfl
theorem RM.mk {w : World} {t : Tm} {l : Lt} {f1 f2 f3 : List Nat} (h0 : i64 t.kind ∧ i64 t.n ∧ t.name.size ≤ 9223372036854775807 ∧ t.other.size ≤ 9223372036854775807) (h1 : l.an = t.args.length ∧ l.an ≤ l.ac ∧ l.ac ≤ maxLen)
    (ht : RT w t.type (.int .i64 t.type.kind) (.slice l.ta l.tn l.tc) f1) (hr : RT w t.res (.int .i64 t.res.kind) (.slice l.ra l.rn l.rc) f2)
    (h : (t.args = [] ∧ f3 = []) ∨ t.args ≠ [] ∧ ∃ b off fps, l.aa = some ⟨b, off, none⟩ ∧ f3 = b :: fps ∧ RMs w t.args b off fps) : RM w t l (f1 ++ (f2 ++ f3)) := by
  cases t
  rw [RM]
  exact ⟨h0, h1, f1, f2, f3, rfl, ht, hr, h⟩

theorem Blk.third (w : World) (o o' : Obj) (t : TypeId) (cs : Array Value) : Blk (((w.alloc o).alloc o').alloc (.cells cs t)) (w.heap.size + 1 + 1) t cs := by
  have h := Blk.new ((w.alloc o).alloc o') t cs
  simpa using h
theorem putAt_zero (w : World) (M : Nat) (t : Tm) (l : Lt) : putAt w M 0 (tcells t l) =
    ((((((((w.setCell ⟨M, 0, none⟩ (.int .i64 t.kind)).setCell ⟨M, 1, none⟩ (.string t.name)).setCell ⟨M, 2, none⟩ (.string t.other)).setCell ⟨M, 3, none⟩ (.int .i64 t.n)).setCell ⟨M, 4, none⟩ (.int .i64 t.type.kind)).setCell
      ⟨M, 5, none⟩ (.slice l.ta l.tn l.tc)).setCell ⟨M, 6, none⟩ (.int .i64 t.res.kind)).setCell ⟨M, 7, none⟩ (.slice l.ra l.rn l.rc)).setCell ⟨M, 8, none⟩ (.slice l.aa l.an l.ac) := rfl

end Go.Proofs.YtklifieahcoljaaGreat
