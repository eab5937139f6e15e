/-
  The walks of toType and toTypeS: a copy of a type in new memory.
-/
import Derived.Test.YtklifieahcoljaaGreatRep
import Derived.Test.YtklifieahcoljaaGreatRows
import Derived.LoopTactic
import Derived.Laws.MakeOwn
import Derived.Laws.Entries
import Derived.OwnWalk
namespace Go.Proofs.YtklifieahcoljaaGreat
open Go.RowKit
set_option linter.unusedVariables false

theorem run_make_rowN {P : Program} (t e : TypeId) (i : TypeInfo) (z : Value) (ht : P.underlying t = some (.slice e)) (hi : P.info? e = some i) (hz : i.zero = some z)
    (kl kc : IntKind) (n c : Nat) (hnc : n ≤ c) (hbytes : i.bytes * c ≤ 281474976710656) (h63 : c ≤ 9223372036854775807) (w : World) :
    (Instr.makeSlice t (.int kl (n : Int)) (.int kc (c : Int))).run P w = .ok (.slice (some ⟨w.heap.size, 0, none⟩) n c) (w.alloc (.cells (madeCells z.cells (c * i.size)) e)) := by
  have hb : (i.bytes : Int) * (c : Int) ≤ 281474976710656 := by
    have h : ((i.bytes * c : Nat) : Int) ≤ 281474976710656 := by omega
    rwa [Int.natCast_mul] at h
  have hr := run_make (P := P) w t e i z ht hi hz kl kc n c (by omega) (by omega) hb (by omega)
  simp only [Int.toNat_natCast] at hr
  exact hr

theorem Tryz.infoType : (Tryz.prog.info? 26).map (fun i => (i.zero, i.size, i.bytes)) = some (some (.agg #[.int .i64 0, .slice none 0 0]), 2, 32) := by kernel_rfl

/-- No cell of these blocks is frozen. -/
def Free (w : World) (fp : List Nat) : Prop := ∀ b ∈ fp, ∀ o, w.frozen? ⟨b, o, none⟩ = false
theorem Free.below {w w' : World} {fp : List Nat} (h : Free w fp) (hl : ∀ b ∈ fp, b < w.heap.size) (hb : Below w.heap.size w w') : Free w' fp :=
  fun b hbf o => (hb.frozen (p := ⟨b, o, none⟩) (hl b hbf)).trans (h b hbf o)
theorem Free.set_ {w : World} {fp : List Nat} (h : Free w fp) (p : Addr) (u : Value) : Free (w.setCell p u) fp := fun b hbf o => (World.frozen?_setCell _ _ _ _).trans (h b hbf o)
theorem Free.nil (w : World) : Free w [] := fun b hb => by cases hb
theorem Free.append {w : World} {f g : List Nat} (hf : Free w f) (hg : Free w g) : Free w (f ++ g) := fun b hb o => (List.mem_append.1 hb).elim (fun h => hf b h o) (fun h => hg b h o)
theorem Free.cons {w : World} {b : Nat} {f : List Nat} (hb : ∀ o, w.frozen? ⟨b, o, none⟩ = false) (hf : Free w f) : Free w (b :: f) := fun x hx o => by
  rcases List.mem_cons.1 hx with rfl | hx
  · exact hb o
  · exact hf x hx o
theorem Free.tail {w : World} {b : Nat} {f : List Nat} (h : Free w (b :: f)) : Free w f := fun x hx o => h x (List.mem_cons_of_mem _ hx) o
/-- Blocks of one's own: each once, from 'base' on, none frozen. -/
def Own (base : Nat) (w : World) (fp : List Nat) : Prop := (∀ b ∈ fp, base ≤ b) ∧ Free w fp

/-- What toType gives: the same tree in blocks of its own, all of them new. -/
def Copied (w : World) (t : Ty) (e : Ending) (w' : World) : Prop :=
  ∃ d0 d1 fp, e = .returned (.agg #[d0, d1]) ∧ RT w' t d0 d1 fp ∧ fp.Nodup ∧ Own w.heap.size w' fp ∧ Below w.heap.size w w'
def CopiedS (w : World) (xs : List Ty) (e : Ending) (w' : World) : Prop :=
  ∃ g fp, e = .returned (.slice (some ⟨g, 0, none⟩) xs.length xs.length) ∧ RTs w' xs g 0 fp ∧ (g :: fp).Nodup ∧ Own w.heap.size w' (g :: fp) ∧ Below w.heap.size w w'

end Go.Proofs.YtklifieahcoljaaGreat
