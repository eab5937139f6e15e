/-
  A world of which only some blocks have turned.
-/
import Derived.Test.YtklifieahcoljaaGreatTo
namespace Go.Proofs.YtklifieahcoljaaGreat
open Go.RowKit
set_option linter.unusedVariables false
set_option linter.unusedSimpArgs false

/-- Of what lay in w only blocks of fp have turned; no mark has turned. -/
structure Wrote (fp : List Nat) (w w' : World) : Prop where
  os : w'.os = w.os
  tape : w'.tape = w.tape
  output : w'.output = w.output
  size : w.heap.size ≤ w'.heap.size
  block : ∀ b, b < w.heap.size → b ∉ fp → w'.heap[b]? = w.heap[b]?
  frozen : ∀ b o, b < w.heap.size → w'.frozen? ⟨b, o, none⟩ = w.frozen? ⟨b, o, none⟩

theorem Wrote.of_below {fp : List Nat} {w w' : World} (h : Below w.heap.size w w') : Wrote fp w w' :=
  ⟨h.os, h.tape, h.output, h.size, fun b hb _ => h.block b hb, fun b o hb => h.frozen (p := ⟨b, o, none⟩) hb⟩
theorem Wrote.refl (fp : List Nat) (w : World) : Wrote fp w w := Wrote.of_below (Below.refl _ _)
theorem Wrote.trans {fp : List Nat} {a b c : World} (h : Wrote fp a b) (k : Wrote fp b c) : Wrote fp a c :=
  ⟨k.os.trans h.os, k.tape.trans h.tape, k.output.trans h.output, Nat.le_trans h.size k.size,
    fun x hx hn => (k.block x (Nat.lt_of_lt_of_le hx h.size) hn).trans (h.block x hx hn), fun x o hx => (k.frozen x o (Nat.lt_of_lt_of_le hx h.size)).trans (h.frozen x o hx)⟩
theorem Wrote.more {fp fq : List Nat} {a b : World} (h : Wrote fp a b) (hs : ∀ x ∈ fp, x ∈ fq) : Wrote fq a b :=
  ⟨h.os, h.tape, h.output, h.size, fun x hx hn => h.block x hx (fun hin => hn (hs x hin)), h.frozen⟩
theorem Wrote.setCell {fp : List Nat} {w : World} {p : Addr} (hp : p.block ∈ fp) (u : Value) : Wrote fp w (w.setCell p u) :=
  ⟨rfl, rfl, rfl, by simp [World.setCell], fun x hx hn => Below.heap_setCell w p u x (fun e => hn (e ▸ hp)), fun x o hx => World.frozen?_setCell _ _ _ _⟩
theorem Wrote.same {fp : List Nat} {w w' : World} (h : Wrote fp w w') {b : Nat} (hb : b < w.heap.size) (hn : b ∉ fp) : SameB w w' b := SameB.of_heap (h.block b hb hn)
theorem Wrote.free {fp fq : List Nat} {w w' : World} (h : Wrote fp w w') (hf : Free w fq) (hl : ∀ b ∈ fq, b < w.heap.size) : Free w' fq := fun b hb o => (h.frozen b o (hl b hb)).trans (hf b hb o)
/-- Below a block number that all written blocks reach: old memory is as it was. -/
theorem Wrote.below {fp : List Nat} {B : Nat} {w w' : World} (h : Wrote fp w w') (hB : B ≤ w.heap.size) (hfp : ∀ b ∈ fp, B ≤ b) : Below B w w' :=
  ⟨h.os, h.tape, h.output, h.size, fun k hk => h.block k (Nat.lt_of_lt_of_le hk hB) (fun hin => by have := hfp k hin; omega)⟩
end Go.Proofs.YtklifieahcoljaaGreat
