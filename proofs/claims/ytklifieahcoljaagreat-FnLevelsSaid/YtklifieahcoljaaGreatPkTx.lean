/-
  Texts of terms; IsValidTerm.
-/
import Derived.Test.YtklifieahcoljaaGreatValTy0
import Derived.Test.YtklifieahcoljaaGreatPlain
import Derived.Deep.RegionHeld3
import Derived.Test.YtklifieahcoljaaGreatStr
import Derived.Test.YtklifieahcoljaaGreatRows
import Derived.Lib.AppendStr
import Derived.Lib.JoinLaws
import Derived.Lib.Join
import Derived.Laws.IdiomStrings
import Derived.Test.YtklifieahcoljaaGreatPkFn
import Derived.Test.YtklifieahcoljaaGreatPkTy
import Derived.Test.YtklifieahcoljaaGreatTm
import Derived.Deep.AppendLies
import Derived.Test.YtklifieahcoljaaGreatLaid
import Derived.LoopTactic
import Derived.Outline
import Derived.Test.YtklifieahcoljaaGreatNum
namespace Go.Proofs.YtklifieahcoljaaGreat
open Go.RowKit
set_option maxRecDepth 100000
set_option linter.unusedVariables false
set_option linter.unusedSimpArgs false

mutual
/-- The text of a type of the four kinds. -/
def Ty.text : Ty → List UInt8
  | ⟨k, xs⟩ => if k = 1 then [73] else if k = 2 then [66] else if k = 3 then [40] ++ (Ty.texts xs).getD 0 [] ++ [62] ++ (Ty.texts xs).getD 1 [] ++ [41] else [60] ++ (Ty.texts xs).getD 0 [] ++ [62]
def Ty.texts : List Ty → List (List UInt8)
  | [] => []
  | t :: ts => t.text :: Ty.texts ts
end
theorem Ty.texts_eq (xs : List Ty) : Ty.texts xs = xs.map Ty.text := by
  induction xs with
  | nil => rfl
  | cons x xs ih => rw [Ty.texts, ih]; rfl

theorem Ty.text_le (t : Ty) : t.text.length ≤ 3 * t.size := by
  induction t using Ty.ind with | h k xs ih => ?_
  have key : ((Ty.texts xs).getD 0 []).length + ((Ty.texts xs).getD 1 []).length ≤ 3 * Ty.sizes xs := by
    match xs, ih with
    | [], _ => simp [Ty.texts]
    | [x], ih =>
      have := ih x (by simp)
      simp [Ty.texts, Ty.sizes]
      omega
    | x :: y :: zs, ih =>
      have := ih x (by simp)
      have := ih y (by simp)
      simp [Ty.texts, Ty.sizes]
      omega
  rw [Ty.text, Ty.size]
  split
  · simp; omega
  · split
    · simp; omega
    · split
      · simp only [List.length_append, List.length_cons, List.length_nil]
        omega
      · simp only [List.length_append, List.length_cons, List.length_nil]
        omega

theorem text_fun (x y : Ty) : ByteArray.mk #[40] ++ ByteArray.mk x.text.toArray ++ ByteArray.mk #[62] ++ ByteArray.mk y.text.toArray ++ ByteArray.mk #[41] = ByteArray.mk (Ty.text ⟨3, [x, y]⟩).toArray := by
  rw [show ByteArray.mk #[40] = ByteArray.mk [40].toArray from rfl, show ByteArray.mk #[62] = ByteArray.mk [62].toArray from rfl, show ByteArray.mk #[41] = ByteArray.mk [41].toArray from rfl]
  simp only [ByteArray.mk_append_mk]
  rw [Ty.text]
  simp [Ty.texts]
theorem text_code (x : Ty) : ByteArray.mk #[60] ++ ByteArray.mk x.text.toArray ++ ByteArray.mk #[62] = ByteArray.mk (Ty.text ⟨4, [x]⟩).toArray := by
  rw [show ByteArray.mk #[60] = ByteArray.mk [60].toArray from rfl, show ByteArray.mk #[62] = ByteArray.mk [62].toArray from rfl]
  simp only [ByteArray.mk_append_mk]
  rw [Ty.text]
  simp [Ty.texts]

set_option maxHeartbeats 800000 in
theorem l4Text_any (t : Ty) : ∀ (c0 c1 : Value) (w : World), Rd w t c0 c1 → t.all Ty.formed = true → t.size ≤ 1048576 →
    Calls Tryz.prog 131 #[.agg #[c0, c1]] w fun e w' => e = .returned (.string ⟨t.text.toArray⟩) ∧ Below w.heap.size w w' := by
  induction t using Ty.ind with | h k xs ih => ?_
  intro c0 c1 w h hf hz
  have IH := hide ih
  clear ih
  obtain ⟨a, n, cap, rfl, rfl, hk, hr⟩ := h.shape
  rw [Ty.all_eq, Bool.and_eq_true] at hf
  obtain ⟨hf1, hf2⟩ := hf
  have hx : n = xs.length := hr.1
  by_cases h1 : k = 1
  · subst h1
    clear hf1 hf2 hx
    go_enter Tryz.func131, Tryz.ntmps131
    go_wp2
    go_ret
    exact ⟨by rw [Ty.text]; rfl, (by repeat (first | exact Below.refl _ _ | assumption | refine Below.drew ?_ | refine below_drewN ?_ _ | refine Below.alloc ?_ (by first | omega | (simp; done) | (simp; omega)) _ | refine Below.setCell ?_ (by first | omega | (simp; done) | (simp; omega)) _))⟩
  · have f1 : (k == 1) = false := beq_eq_false_iff_ne.2 h1
    by_cases h2 : k = 2
    · subst h2
      clear hf1 hf2 hx
      go_enter Tryz.func131, Tryz.ntmps131
      go_wp2
      go_ret
      exact ⟨by rw [Ty.text]; rfl, (by repeat (first | exact Below.refl _ _ | assumption | refine Below.drew ?_ | refine below_drewN ?_ _ | refine Below.alloc ?_ (by first | omega | (simp; done) | (simp; omega)) _ | refine Below.setCell ?_ (by first | omega | (simp; done) | (simp; omega)) _))⟩
    · have f2 : (k == 2) = false := beq_eq_false_iff_ne.2 h2
      by_cases h3 : k = 3
      · subst h3
        have hx2 : xs.length = 2 := by simpa [Ty.formed] using hf1
        match xs, hx2 with
        | [x, y], _ =>
          obtain rfl : n = 2 := hx
          simp only [List.all_cons, List.all_nil, Bool.and_true, Bool.and_eq_true] at hf2
          obtain ⟨b, off, e0, e1, rfl, hlt, q0, q1, hd⟩ := hr.get 0 (by simp)
          obtain ⟨b', off', g0, g1, hb, -, p0, p1, hd'⟩ := hr.get 1 (by simp)
          simp only [Option.some.injEq, Addr.mk.injEq, and_true] at hb
          obtain ⟨rfl, rfl⟩ := hb
          simp only [Nat.zero_mul, Nat.add_zero, Nat.one_mul] at q0 q1 p0 p1
          simp only [List.getElem_cons_zero, List.getElem_cons_succ] at hd hd'
          have hzx : x.size ≤ 1048576 ∧ y.size ≤ 1048576 := by
            have := hz
            simp only [Ty.size, Ty.sizes] at this
            omega
          have KK := hide (fun (W : World) (hW : Below (w.alloc (.cells #[.int .i64 3, .slice (some ⟨b, off, none⟩) 2 cap] 26)).heap.size (w.alloc (.cells #[.int .i64 3, .slice (some ⟨b, off, none⟩) 2 cap] 26)) W) =>
            have q := below_of_alloc hW
            show W.cell? ⟨w.heap.size, 1, none⟩ = some (.slice (some ⟨b, off, none⟩) 2 cap) ∧ W.cell? ⟨b, off, none⟩ = some e0 ∧ W.cell? ⟨b, off + 1, none⟩ = some e1 ∧ W.cell? ⟨b, off + 2, none⟩ = some g0 ∧ W.cell? ⟨b, off + 2 + 1, none⟩ = some g1 from
            ⟨((Blk.new w _ _).under hW).two.2, (q.cell hlt).trans q0, (q.cell hlt).trans q1, (q.cell hlt).trans p0, (q.cell hlt).trans p1⟩)
          clear q0 q1 p0 p1
          have hz1 := hzx.1
          have hz2 := hzx.2
          have hlx : x.text.length ≤ 3145728 := by have := x.text_le; omega
          have hly : y.text.length ≤ 3145728 := by have := y.text_le; omega
          obtain ⟨hfx, hfy⟩ := hf2
          have hs1 : ¬ 9223372036854775807 < 1 + x.text.length := by omega
          have hs2 : ¬ 9223372036854775807 < 1 + x.text.length + 1 := by omega
          have hs3 : ¬ 9223372036854775807 < 1 + x.text.length + 1 + y.text.length := by omega
          have hs4 : ¬ 9223372036854775807 < 1 + x.text.length + 1 + y.text.length + 1 := by omega
          replace hfx := hide hfx
          replace hfy := hide hfy
          clear hf1
          go_enter Tryz.func131, Tryz.ntmps131
          go_wp2_with fail
          go_region_held3 (fun W => W.cell? ⟨w.heap.size, 1, none⟩ = some (.slice (some ⟨b, off, none⟩) 2 cap) ∧ W.cell? ⟨b, off, none⟩ = some e0 ∧ W.cell? ⟨b, off + 1, none⟩ = some e1 ∧ W.cell? ⟨b, off + 2, none⟩ = some g0 ∧ W.cell? ⟨b, off + 2 + 1, none⟩ = some g1)
            (first | exact KK.out _ (below_drew _) | exact KK.out _ q1 | exact KK.out _ q2)
            (first
              | (go_at_call 131; (with_reducible refine (IH.out x (by simp) e0 e1 _ (hd.below (below_next (below_new _ _) (below_drew _))) hfx.out hz1).mono ?_); rintro e w1 ⟨rfl, b1⟩
                 have q1 := below_next (below_drew _) b1)
              | (go_at_call 131; (with_reducible refine (IH.out y (by simp) g0 g1 _ (hd'.below (below_next (below_new _ _) q1)) hfy.out hz2).mono ?_); rintro e w2 ⟨rfl, b2⟩
                 have q2 := below_next q1 b2))
          go_wp2_with fail
          go_ret
          refine ⟨ret_string (text_fun x y), below_next (below_new _ _) q2⟩
      · have f3 : (k == 3) = false := beq_eq_false_iff_ne.2 h3
        have h4 : k = 4 ∧ xs.length = 1 := by simpa [Ty.formed, h1, h2, h3] using hf1
        obtain ⟨rfl, hx2⟩ := h4
        match xs, hx2 with
        | [x], _ =>
          obtain rfl : n = 1 := hx
          simp only [List.all_cons, List.all_nil, Bool.and_true] at hf2
          obtain ⟨b, off, e0, e1, rfl, hlt, q0, q1, hd⟩ := hr.get 0 (by simp)
          simp only [Nat.zero_mul, Nat.add_zero] at q0 q1
          simp only [List.getElem_cons_zero] at hd
          have hz1 : x.size ≤ 1048576 := by
            have := hz
            simp only [Ty.size, Ty.sizes] at this
            omega
          have k0 : ∀ o, (w.alloc o).cell? ⟨b, off, none⟩ = some e0 := fun o => (World.cell?_alloc_lt w o _ hlt).trans q0
          have k1 : ∀ o, (w.alloc o).cell? ⟨b, off + 1, none⟩ = some e1 := fun o => (World.cell?_alloc_lt w o _ hlt).trans q1
          clear q0 q1
          have hlx : x.text.length ≤ 3145728 := by have := x.text_le; omega
          replace hf2 := hide hf2
          clear hf1
          go_enter Tryz.func131, Tryz.ntmps131
          go_wp2_with (go_at_call 131; (with_reducible refine (IH.out x (by simp) e0 e1 _ (hd.below (below_new _ _)) hf2.out hz1).mono ?_); rintro e w1 ⟨rfl, b1⟩)
          go_ret
          exact ⟨ret_string (text_code x), below_of_alloc b1⟩
end Go.Proofs.YtklifieahcoljaaGreat

namespace Go.Proofs.YtklifieahcoljaaGreat
open Go.RowKit
set_option maxRecDepth 100000
set_option linter.unusedVariables false
set_option linter.unusedSimpArgs false

/-- The bytes of texts, joined. -/
def bjoin (xs : List ByteArray) (s : ByteArray) : List UInt8 := Lib.join (xs.map (·.data.toList)) s.data.toList
theorem bjoin_zero (xs : List ByteArray) (s : ByteArray) : bjoin (xs.take 0) s = [] := by simp [bjoin, Lib.join_nil]
theorem bjoin_first (xs : List ByteArray) (s : ByteArray) (h : 0 < xs.length) : bjoin (xs.take 1) s = xs[0].data.toList := by
  match xs, h with
  | x :: r, _ => simp [bjoin, Lib.join_one]
theorem bjoin_next (xs : List ByteArray) (s : ByteArray) (k : Nat) (h : k < xs.length) (h0 : 0 < k) : bjoin (xs.take (k + 1)) s = bjoin (xs.take k) s ++ s.data.toList ++ xs[k].data.toList := by
  match xs, k, h, h0 with
  | x :: r, k + 1, h, _ =>
    have hk : (r.map (·.data.toList))[k]? = some ((x :: r)[k + 1].data.toList) := by
      have : k < r.length := by simpa using h
      simp [this]
    have h1 := Lib.joinTail_take_succ s.data.toList (r.map (·.data.toList)) k _ hk
    simp only [bjoin, List.take_succ_cons, List.map_cons, Lib.join_cons, List.map_take]
    rw [h1]
    simp
theorem bjoin_len (xs : List ByteArray) (s : ByteArray) (hs : s.size ≤ 1048576) (hN : xs.length ≤ 1048576) (hx : sizeSs xs ≤ 1073741824) : (bjoin xs s).length ≤ 1100585369600 := by
  match xs with
  | [] => simp [bjoin, Lib.join_nil]
  | x :: r =>
    have h1 := Lib.join_length x.data.toList (r.map (·.data.toList)) s.data.toList
    have h2 : Lib.lens ((x :: r).map (·.data.toList)) = ((x :: r).map ByteArray.size).sum := by
      unfold Lib.lens
      rw [List.map_map]
      rfl
    have h3 : s.data.toList.length = s.size := rfl
    unfold sizeSs at hx
    simp only [List.length_cons] at hx hN
    have h4 : s.size * r.length ≤ 1048576 * 1048576 := Nat.mul_le_mul hs (by omega)
    simp only [List.map_cons] at h2
    simp only [bjoin, List.map_cons]
    rw [h1, h2, h3, List.length_map]
    simp only [List.map_cons] at hx
    omega
theorem sizeSs_take' (xs : List ByteArray) (k : Nat) : sizeSs (xs.take k) ≤ sizeSs xs := by
  have := sizeSs_take_le xs k
  unfold sizeSs
  rw [List.length_take]
  omega
def bcells (l : List UInt8) : List Value := l.map fun b => .int .u8 (b.toNat : Int)
theorem bcells_app (l m : List UInt8) : bcells (l ++ m) = bcells l ++ bcells m := by simp [bcells]
theorem strCells_eq (s : ByteArray) : Lib.strCells s = bcells s.data.toList := by simp [Lib.strCells, bcells]

theorem Tryz.infoByte : (Tryz.prog.info? 5).map (fun i => (i.zero, i.size, i.bytes)) = some (some (.int .u8 0), 1, 1) := by kernel_rfl

set_option maxHeartbeats 1600000 in
theorem specJoin_big (xs : List ByteArray) (s : ByteArray) (a : Option Addr) (n cap : Nat) (w : World) (h : Rss w xs a n cap) (hs : s.size ≤ 1048576) (hN : xs.length ≤ 1048576) (hx : sizeSs xs ≤ 1073741824) :
    Calls Tryz.prog 130 #[.slice a n cap, .string s] w fun e w' => e = .returned (.string ⟨(bjoin xs s).toArray⟩) ∧ Below w.heap.size w w' := by
  have hn : n ≤ 1048576 := by have := h.1; omega
  have hxn := hide h.1
  have HLEN := hide (fun k => bjoin_len (xs.take k) s hs (by rw [List.length_take]; omega) (Nat.le_trans (sizeSs_take' xs k) hx))
  obtain ⟨i0, hi, hz0, hz1, hz2⟩ := info_parts Tryz.infoByte
  go_enter Tryz.func130, Tryz.ntmps130
  go_wp2_with fail
  go_loopw [5, 6] (fun v i wr => ∃ k : Nat, k ≤ n ∧ i = .int .i64 k ∧ (∃ (u : Value) (l : List UInt8), u = v ∧ Hid (l = bjoin (xs.take k) s) ∧ wr.ownsRow w.heap.size 5 1 u l.length (bcells l) ∧ Hid (u ≠ .slice none 0 0)) ∧ Below w.heap.size w wr) (fun _ i _ => n - (intOf i).toNat)
  case atStart => exact ⟨0, by omega, rfl, ⟨_, [], rfl, by rw [Hid, bjoin_zero], World.ownsRow_made w #[] 0 (Nat.le_refl _) (by simp) (by simp), by simp [Hid]⟩, below_new _ _⟩
  case round =>
    obtain ⟨k, hk, rfl, ⟨u, l, rfl, HL, hown, HNN⟩, hb⟩ := hrel
    have hsz := hb.size
    have hll : l.length ≤ 1100585369600 := by rw [HL.out]; exact HLEN.out k
    by_cases hkn : k < n
    · have hkx : k < xs.length := by rw [← hxn.out]; exact hkn
      obtain ⟨b, off, rfl, hlt', e0⟩ := (h.below hb).get k hkx
      have hxs : xs[k].size ≤ 1073741824 := by
        have h1 := sizeSs_take xs k hkx
        have h2 := sizeSs_take_le xs (k + 1)
        unfold sizeSs at hx
        omega
      by_cases hk0 : k = 0
      · subst hk0
        have hd : decide (((0 : Nat) : Int) > 0) = false := by simp
        rw [Nat.add_zero] at e0
        go_wp2_with (at_builtin; refine Lib.wpList_append_own_string _ rfl _ _ 22 9 rfl w.heap.size 5 i0 Tryz.underlying22 Tryz.underlying9 hi hz0 hz1 hz2 _ l.length (bcells l) rfl hown xs[0] rfl (by unfold maxLen; omega) (by omega) hsz ?_)
        intro v' w1 hown1 hgrow hnil
        go_wp2_with fail
        go_roundw
        case rel =>
          refine ⟨1, by omega, by go_num, ⟨v', xs[0].data.toList, rfl, (bjoin_first xs s (by omega)).symm, ?_, ?_⟩, hb.grown hgrow hsz fun k hk => (hown.lt k hk).1⟩
          · have hl0 : l = [] := by rw [HL.out, bjoin_zero]
            rw [hl0, strCells_eq] at hown1
            simpa [bcells] using hown1
          · exact fun e => HNN.out (hnil.1 e).1
        case measure => simp [intOf]; omega
      · have hd : decide ((k : Int) > 0) = true := by simp; omega
        go_wp2_with (at_builtin; refine Lib.wpList_append_own_string _ rfl _ _ 22 9 rfl w.heap.size 5 i0 Tryz.underlying22 Tryz.underlying9 hi hz0 hz1 hz2 _ l.length (bcells l) rfl hown s rfl (by unfold maxLen; omega) (by omega) hsz ?_)
        intro v1 w1 hown1 hgrow1 hnil1
        have b1 : Below w.heap.size w w1 := hb.grown hgrow1 hsz fun k hk => (hown.lt k hk).1
        have hs1 := b1.size
        have e1 : w1.cell? ⟨b, off + k, none⟩ = some (.string xs[k]) := by
          obtain ⟨b', off', ha', -, e'⟩ := (h.below b1).get k hkx
          injection ha' with ha'
          injection ha' with q1 q2
          rw [q1, q2]
          exact e'
        clear e0
        go_wp2_with (at_builtin; refine Lib.wpList_append_own_string _ rfl _ _ 22 9 rfl w.heap.size 5 i0 Tryz.underlying22 Tryz.underlying9 hi hz0 hz1 hz2 v1 (l.length + s.size) (bcells l ++ Lib.strCells s) rfl hown1 xs[k] rfl (by unfold maxLen; omega) (by omega) hs1 ?_)
        intro v2 w2 hown2 hgrow2 hnil2
        go_wp2_with fail
        go_roundw
        case rel =>
          refine ⟨k + 1, by omega, by go_num, ⟨v2, l ++ s.data.toList ++ xs[k].data.toList, rfl, ?_, ?_, ?_⟩, b1.grown hgrow2 hs1 fun k hk => (hown1.lt k hk).1⟩
          · rw [Hid, bjoin_next xs s k hkx (by omega), HL.out]
          · rw [strCells_eq, strCells_eq] at hown2
            rw [bcells_app, bcells_app]
            simpa [Nat.add_assoc] using hown2
          · exact fun e => HNN.out (by first | exact (hnil1.1 (hnil2.1 e).1).1 | exact (hnil2.1 e).1.1)
        case measure => simp [intOf]; omega
    · have hkx : k = xs.length := by have := hxn.out; omega
      rcases hown.2 with ⟨rfl, hz⟩ | ⟨g, cap', cur, rfl, hg, hh, r⟩
      · exact absurd rfl HNN.out
      · have hcv := run_convert_bytes_back (P := Tryz.prog) wr 22 9 5 ⟨g, 0, none⟩ cap' l Tryz.underlying22 Tryz.underlying5 Tryz.underlying9 fun j hj => by
          have := hown.cells (g := g) rfl j (.int .u8 (l[j].toNat : Int)) (by simp [bcells, hj])
          simpa [Addr.add_lit] using this
        go_wp2_with fail
        go_ret
        refine ⟨ret_string ?_, hb⟩
        rw [HL.out, hkx, List.take_length]
theorem specJoin_any (xs : List ByteArray) (s : ByteArray) (a : Option Addr) (n cap : Nat) (w : World) (h : Rss w xs a n cap) (hs : s.size ≤ 1048576) (hx : sizeSs xs ≤ 1048576) :
    Calls Tryz.prog 130 #[.slice a n cap, .string s] w fun e w' => e = .returned (.string ⟨(bjoin xs s).toArray⟩) ∧ Below w.heap.size w w' :=
  specJoin_big xs s a n cap w h hs (by unfold sizeSs at hx; omega) (by omega)
end Go.Proofs.YtklifieahcoljaaGreat

namespace Go.Proofs.YtklifieahcoljaaGreat
open Go.RowKit
set_option maxRecDepth 100000
set_option linter.unusedVariables false
set_option linter.unusedSimpArgs false

/-- A type's text as a string. -/
def Ty.str (t : Ty) : ByteArray := ⟨t.text.toArray⟩
/-- Texts with spaces between. -/
def spaced (ps : List ByteArray) : ByteArray := ⟨(bjoin ps ⟨#[32]⟩).toArray⟩
def part (ps : List ByteArray) (i : Nat) : ByteArray := ps.getD i ⟨#[]⟩
/-- A node's text, its parts' texts given. -/
def textBy (k : Int) (nm ot : ByteArray) (n : Int) (ty re : Ty) (ps : List ByteArray) : ByteArray :=
  if k = 1 then nm
  else if k = 2 then itoaS n
  else if k = 3 then ⟨#[35]⟩ ++ (⟨#[102, 116]⟩ : ByteArray).extract n.toNat (n + 1).toNat
  else if k = 4 then (if ps.length = 1 then ⟨#[40, 33]⟩ ++ part ps 0 ++ ⟨#[41]⟩ else ⟨#[40]⟩ ++ part ps 0 ++ nm ++ part ps 1 ++ ⟨#[41]⟩)
  else if k = 10 then ⟨#[60]⟩ ++ part ps 0 ++ ⟨#[62]⟩
  else if k = 11 then ⟨#[126]⟩ ++ part ps 0
  else if k = 5 then ⟨#[40, 105, 102, 32]⟩ ++ spaced ps ++ ⟨#[41]⟩
  else if k = 6 then ⟨#[40, 92]⟩ ++ nm ++ ⟨#[58]⟩ ++ ty.str ++ ⟨#[46]⟩ ++ part ps 0 ++ ⟨#[41]⟩
  else if k = 7 then ⟨#[40]⟩ ++ spaced ps ++ ⟨#[41]⟩
  else if k = 8 then ⟨#[40, 108, 101, 116, 32]⟩ ++ nm ++ ⟨#[61]⟩ ++ spaced ps ++ ⟨#[41]⟩
  else if k = 9 then ⟨#[40, 114, 101, 99, 32]⟩ ++ nm ++ ⟨#[32]⟩ ++ ot ++ ⟨#[58]⟩ ++ ty.str ++ ⟨#[62]⟩ ++ re.str ++ ⟨#[46]⟩ ++ part ps 0 ++ ⟨#[41]⟩
  else if k = 12 then ⟨#[40, 114, 117, 110, 32]⟩ ++ part ps 0 ++ ⟨#[41]⟩
  else ⟨#[40, 108, 105, 102, 116, 32]⟩ ++ part ps 0 ++ ⟨#[41]⟩
mutual
def Tm.text : Tm → ByteArray
  | ⟨k, nm, ot, n, ty, re, xs⟩ => textBy k nm ot n ty re (Tm.texts xs)
def Tm.texts : List Tm → List ByteArray
  | [] => []
  | t :: ts => t.text :: Tm.texts ts
end
theorem Tm.texts_eq (xs : List Tm) : Tm.texts xs = xs.map Tm.text := by
  induction xs with
  | nil => rfl
  | cons x xs ih => rw [Tm.texts, ih]; rfl
theorem Tm.text_eq (t : Tm) : t.text = textBy t.kind t.name t.other t.n t.type t.res (t.args.map Tm.text) := by
  cases t
  rw [Tm.text, Tm.texts_eq]

/-- The sum of the sizes. -/
def sumS (ps : List ByteArray) : Nat := (ps.map ByteArray.size).sum
theorem part_le : ∀ (ps : List ByteArray) (i : Nat), (part ps i).size ≤ sumS ps
  | [], i => by
    show (ByteArray.mk #[]).size ≤ 0
    exact Nat.le_refl _
  | p :: ps, 0 => by simp [part, sumS]
  | p :: ps, i + 1 => by
    have := part_le ps i
    simp only [part, sumS, List.getD_cons_succ, List.map_cons, List.sum_cons] at this ⊢
    omega
theorem parts_le : ∀ (ps : List ByteArray), (part ps 0).size + (part ps 1).size ≤ sumS ps
  | [] => by
    show (ByteArray.mk #[]).size + (ByteArray.mk #[]).size ≤ 0
    exact Nat.le_refl _
  | [p] => by
    show p.size + 0 ≤ p.size + 0
    exact Nat.le_refl _
  | p :: q :: ps => by
    show p.size + q.size ≤ p.size + (q.size + _)
    omega
theorem spaced_le (ps : List ByteArray) : (spaced ps).size ≤ sumS ps + ps.length := by
  match ps with
  | [] => simp [spaced, bjoin, Lib.join_nil, sumS, ByteArray.size]
  | p :: r =>
    have h1 := Lib.join_length p.data.toList (r.map (·.data.toList)) [32]
    have h2 : Lib.lens ((p :: r).map (·.data.toList)) = sumS (p :: r) := by
      unfold Lib.lens sumS
      rw [List.map_map]
      rfl
    have h3 : (spaced (p :: r)).size = (Lib.join ((p :: r).map (·.data.toList)) [32]).length := by
      show (bjoin (p :: r) ⟨#[32]⟩).toArray.size = _
      rw [List.size_toArray]
      rfl
    simp only [List.map_cons] at h2 h3
    rw [h3, h1, h2]
    simp
    omega
theorem Ty.str_le (t : Ty) (h : t.valid = true) : t.str.size ≤ 90 := by
  have h1 := t.text_le
  have h2 : t.size ≤ 30 := by
    simp only [Ty.valid, Bool.and_eq_true, decide_eq_true_eq] at h
    exact h.1
  show t.text.toArray.size ≤ 90
  rw [List.size_toArray]
  omega
theorem isName_le {s : ByteArray} (h : isName s = true) : s.size ≤ 4 := by
  simp only [isName, Bool.and_eq_true] at h
  have := inB_iff.1 h.2.1
  omega
theorem one_le {s : ByteArray} {c : UInt8} (h : (s.toList == [c]) = true) : s.size ≤ 4 := by
  have h1 : s.toList = [c] := by simpa using h
  rw [ByteArray.toList_eq] at h1
  have h2 : s.data.toList.length = s.size := rfl
  rw [h1] at h2
  simp at h2
  omega
theorem opArity_le {s : ByteArray} (h : 0 < opArity s) : s.size ≤ 4 := by
  unfold opArity at h
  split at h
  · rename_i h1
    simp only [Bool.or_eq_true] at h1
    rcases h1 with (((((h1 | h1) | h1) | h1) | h1) | h1) | h1 <;> exact one_le h1
  · split at h
    · rename_i h1
      exact one_le h1
    · omega
theorem form_facts {t : Tm} (hf : formI t = true) : (t.kind = 1 ∨ t.kind = 4 ∨ t.kind = 6 ∨ t.kind = 8 ∨ t.kind = 9 → t.name.size ≤ 4) ∧ (t.kind = 9 → t.other.size ≤ 4) ∧ (t.kind = 6 ∨ t.kind = 9 → t.type.valid = true) ∧ (t.kind = 9 → t.res.valid = true) ∧
    (t.kind = 2 → 0 ≤ t.n ∧ t.n ≤ 10006) ∧ (t.kind = 3 → t.n = 0 ∨ t.n = 1) ∧ 1 ≤ t.kind ∧ t.kind ≤ 13 ∧ (t.args.length : Int) = arityI t.kind t.name := by
  simp only [formI, Bool.and_eq_true] at hf
  obtain ⟨ha, hn, -⟩ := hf
  have ha' : (t.args.length : Int) = arityI t.kind t.name := by simpa using ha
  by_cases k1 : t.kind = 1
  · have h : isName t.name = true := by simpa [namedI, k1] using hn
    exact ⟨fun _ => isName_le h, fun h => by omega, fun h => by omega, fun h => by omega, fun h => by omega, fun h => by omega, by omega, by omega, ha'⟩
  by_cases k8 : t.kind = 8
  · have h : isName t.name = true := by simpa [namedI, k8] using hn
    exact ⟨fun _ => isName_le h, fun h => by omega, fun h => by omega, fun h => by omega, fun h => by omega, fun h => by omega, by omega, by omega, ha'⟩
  by_cases k2 : t.kind = 2
  · have h : inB t.n 0 10006 = true := by simpa [namedI, k2] using hn
    have := inB_iff.1 h
    exact ⟨fun h => by omega, fun h => by omega, fun h => by omega, fun h => by omega, fun _ => this, fun h => by omega, by omega, by omega, ha'⟩
  by_cases k3 : t.kind = 3
  · have h : inB t.n 0 1 = true := by simpa [namedI, k3] using hn
    have := inB_iff.1 h
    exact ⟨fun h => by omega, fun h => by omega, fun h => by omega, fun h => by omega, fun h => by omega, fun _ => by omega, by omega, by omega, ha'⟩
  by_cases k4 : t.kind = 4
  · have h : 0 < opArity t.name := by simpa [namedI, k4] using hn
    exact ⟨fun _ => opArity_le h, fun h => by omega, fun h => by omega, fun h => by omega, fun h => by omega, fun h => by omega, by omega, by omega, ha'⟩
  by_cases k6 : t.kind = 6
  · have h : isName t.name = true ∧ t.type.valid = true := by simpa [namedI, k6] using hn
    exact ⟨fun _ => isName_le h.1, fun h => by omega, fun _ => h.2, fun h => by omega, fun h => by omega, fun h => by omega, by omega, by omega, ha'⟩
  by_cases k9 : t.kind = 9
  · have h : isName t.name = true ∧ isName t.other = true ∧ (¬ t.name.toList = t.other.toList) ∧ t.type.valid = true ∧ t.res.valid = true := by simpa [namedI, k9] using hn
    exact ⟨fun _ => isName_le h.1, fun _ => isName_le h.2.1, fun _ => h.2.2.2.1, fun _ => h.2.2.2.2, fun h => by omega, fun h => by omega, by omega, by omega, ha'⟩
  · have h : inB t.kind 1 13 = true := by simpa [namedI, k1, k2, k3, k4, k6, k8, k9] using hn
    have := inB_iff.1 h
    exact ⟨fun h => by omega, fun h => by omega, fun h => by omega, fun h => by omega, fun h => by omega, fun h => by omega, by omega, by omega, ha'⟩
theorem lit_size (a : Array UInt8) : (ByteArray.mk a).size = a.size := rfl
theorem node_le {t : Tm} (hf : formI t = true) (ps : List ByteArray) : (textBy t.kind t.name t.other t.n t.type t.res ps).size ≤ 210 + sumS ps + ps.length := by
  obtain ⟨f1, f2, f3, f4, f5, f6, -⟩ := form_facts hf
  have q0 := part_le ps 0
  have q1 := parts_le ps
  have q2 := spaced_le ps
  have q3 : t.kind = 2 → (itoaS t.n).size ≤ 21 := fun h => by
    have h5 := f5 h
    have := Lib.itoa_length_le t.n (by omega) (by omega)
    simpa [itoaS, ByteArray.size] using this
  have q4 := fun h => t.type.str_le (f3 h)
  have q5 := fun h => t.res.str_le (f4 h)
  unfold textBy
  by_cases k1 : t.kind = 1
  · rw [if_pos k1]
    omega
  rw [if_neg k1]
  by_cases k2 : t.kind = 2
  · rw [if_pos k2]
    omega
  rw [if_neg k2]
  by_cases k3 : t.kind = 3
  · rw [if_pos k3]
    simp only [ByteArray.size_append, ByteArray.size_extract, lit_size, List.size_toArray, List.length_cons, List.length_nil]
    omega
  rw [if_neg k3]
  by_cases k4 : t.kind = 4
  · rw [if_pos k4]
    by_cases kl : ps.length = 1
    · rw [if_pos kl]
      simp only [ByteArray.size_append, ByteArray.size_extract, lit_size, List.size_toArray, List.length_cons, List.length_nil]
      omega
    · rw [if_neg kl]
      simp only [ByteArray.size_append, ByteArray.size_extract, lit_size, List.size_toArray, List.length_cons, List.length_nil]
      omega
  rw [if_neg k4]
  by_cases k10 : t.kind = 10
  · rw [if_pos k10]
    simp only [ByteArray.size_append, ByteArray.size_extract, lit_size, List.size_toArray, List.length_cons, List.length_nil]
    omega
  rw [if_neg k10]
  by_cases k11 : t.kind = 11
  · rw [if_pos k11]
    simp only [ByteArray.size_append, ByteArray.size_extract, lit_size, List.size_toArray, List.length_cons, List.length_nil]
    omega
  rw [if_neg k11]
  by_cases k5 : t.kind = 5
  · rw [if_pos k5]
    simp only [ByteArray.size_append, ByteArray.size_extract, lit_size, List.size_toArray, List.length_cons, List.length_nil]
    omega
  rw [if_neg k5]
  by_cases k6 : t.kind = 6
  · rw [if_pos k6]
    simp only [ByteArray.size_append, ByteArray.size_extract, lit_size, List.size_toArray, List.length_cons, List.length_nil]
    omega
  rw [if_neg k6]
  by_cases k7 : t.kind = 7
  · rw [if_pos k7]
    simp only [ByteArray.size_append, ByteArray.size_extract, lit_size, List.size_toArray, List.length_cons, List.length_nil]
    omega
  rw [if_neg k7]
  by_cases k8 : t.kind = 8
  · rw [if_pos k8]
    simp only [ByteArray.size_append, ByteArray.size_extract, lit_size, List.size_toArray, List.length_cons, List.length_nil]
    omega
  rw [if_neg k8]
  by_cases k9 : t.kind = 9
  · rw [if_pos k9]
    simp only [ByteArray.size_append, ByteArray.size_extract, lit_size, List.size_toArray, List.length_cons, List.length_nil]
    omega
  rw [if_neg k9]
  by_cases k12 : t.kind = 12
  · rw [if_pos k12]
    simp only [ByteArray.size_append, ByteArray.size_extract, lit_size, List.size_toArray, List.length_cons, List.length_nil]
    omega
  rw [if_neg k12]
  simp only [ByteArray.size_append, ByteArray.size_extract, lit_size, List.size_toArray, List.length_cons, List.length_nil]
  omega
theorem Tm.text_le (t : Tm) : t.ok = true → t.text.size ≤ 256 * t.size := by
  induction t using Tm.ind' with | h t ih => ?_
  intro h
  have h' : (formI t && t.args.all Tm.ok) = true := by rw [← h]; exact (Tm.all_eq formI t).symm
  rw [Bool.and_eq_true] at h'
  obtain ⟨hf, ha⟩ := h'
  have hl : t.args.length ≤ 3 := by
    obtain ⟨-, -, -, -, -, -, -, -, h9⟩ := form_facts hf
    unfold arityI opArity at h9
    repeat' split at h9
    all_goals omega
  have hs : ∀ xs : List Tm, (∀ x ∈ xs, x ∈ t.args) → sumS (xs.map Tm.text) ≤ 256 * Tm.sizes xs := by
    intro xs
    induction xs with
    | nil => simp [sumS]
    | cons x xs ihx =>
      intro hx
      have h1 := ih x (hx x (by simp)) (List.all_eq_true.1 ha x (hx x (by simp)))
      have h2 := ihx fun y hy => hx y (by simp [hy])
      simp only [sumS, List.map_cons, List.sum_cons, Tm.sizes] at h2 ⊢
      omega
  have h1 := node_le hf (t.args.map Tm.text)
  have h2 := hs t.args fun x hx => hx
  rw [List.length_map] at h1
  rw [Tm.text_eq, Tm.size_eq]
  omega
end Go.Proofs.YtklifieahcoljaaGreat

namespace Go.Proofs.YtklifieahcoljaaGreat
open Go.RowKit
set_option maxRecDepth 100000
set_option linter.unusedVariables false
set_option linter.unusedSimpArgs false

set_option maxHeartbeats 1600000 in
theorem l6Long_join (t : Tm) (l : Lt) (ps : List ByteArray) (a : Option Addr) (n cap : Nat) (w : World) (h : Rss w ps a n cap) (hN : ps.length ≤ 1048576) (hs : sumS ps ≤ 536870912) (hk : t.kind = 5 ∨ t.kind = 7) :
    Calls Tryz.prog 127 #[.agg #[.int .i64 t.kind, .string t.name, .string t.other, .int .i64 t.n, .int .i64 t.type.kind, .slice l.ta l.tn l.tc, .int .i64 t.res.kind, .slice l.ra l.rn l.rc, .slice l.aa l.an l.ac], .slice a n cap] w fun e w' => e = .returned (.string (textBy t.kind t.name t.other t.n t.type t.res ps)) ∧ Below w.heap.size w w' := by
  have bn := below_new w (.cells #[.int .i64 t.kind, .string t.name, .string t.other, .int .i64 t.n, .int .i64 t.type.kind, .slice l.ta l.tn l.tc, .int .i64 t.res.kind, .slice l.ra l.rn l.rc, .slice l.aa l.an l.ac] 29)
  have hsz : sizeSs ps ≤ 1073741824 := by unfold sizeSs; unfold sumS at hs; omega
  have C := specJoin_big ps ⟨#[32]⟩ a n cap _ (h.below bn) (by simp [ByteArray.size]) hN hsz
  have hsp := spaced_le ps
  replace C : Calls Tryz.prog 130 #[.slice a n cap, .string ⟨#[32]⟩] _ fun e w' => e = .returned (.string (spaced ps)) ∧ _ := C
  have hsp2 : (spaced ps).size ≤ 1073741824 := by omega
  clear hsp hsz hs h
  rcases hk with k | k
  · have hte : textBy t.kind t.name t.other t.n t.type t.res ps = ⟨#[40, 105, 102, 32]⟩ ++ spaced ps ++ ⟨#[41]⟩ := by simp [textBy, k]
    rw [hte]
    generalize spaced ps = x at C hsp2
    replace C := hide C
    have g5 : (t.kind == 5) = true := beq_iff_eq.2 k
    clear k hte
    go_enter Tryz.func127, Tryz.ntmps127
    go_wp2_with (go_at_call 130; (with_reducible refine C.out.mono ?_); rintro e w1 ⟨rfl, b1⟩)
    go_ret
    exact ⟨rfl, below_of_alloc b1⟩
  · have hte : textBy t.kind t.name t.other t.n t.type t.res ps = ⟨#[40]⟩ ++ spaced ps ++ ⟨#[41]⟩ := by simp [textBy, k]
    rw [hte]
    generalize spaced ps = x at C hsp2
    replace C := hide C
    have g5 : (t.kind == 5) = false := by rw [k]; rfl
    have g6 : (t.kind == 6) = false := by rw [k]; rfl
    have g7 : (t.kind == 7) = true := beq_iff_eq.2 k
    clear k hte
    go_enter Tryz.func127, Tryz.ntmps127
    go_wp2_with (go_at_call 130; (with_reducible refine C.out.mono ?_); rintro e w1 ⟨rfl, b1⟩)
    go_ret
    exact ⟨rfl, below_of_alloc b1⟩
set_option maxHeartbeats 1600000 in
theorem l6Long_one (t : Tm) (l : Lt) (ps : List ByteArray) (a : Option Addr) (n cap : Nat) (w : World) (h : Rss w ps a n cap) (hN : ps.length = 1) (hs : sumS ps ≤ 536870912) (hk : t.kind = 12 ∨ t.kind = 13) :
    Calls Tryz.prog 127 #[.agg #[.int .i64 t.kind, .string t.name, .string t.other, .int .i64 t.n, .int .i64 t.type.kind, .slice l.ta l.tn l.tc, .int .i64 t.res.kind, .slice l.ra l.rn l.rc, .slice l.aa l.an l.ac], .slice a n cap] w fun e w' => e = .returned (.string (textBy t.kind t.name t.other t.n t.type t.res ps)) ∧ Below w.heap.size w w' := by
  have bn := below_new w (.cells #[.int .i64 t.kind, .string t.name, .string t.other, .int .i64 t.n, .int .i64 t.type.kind, .slice l.ta l.tn l.tc, .int .i64 t.res.kind, .slice l.ra l.rn l.rc, .slice l.aa l.an l.ac] 29)
  obtain ⟨b, off, rfl, hlt, e0⟩ := (h.below bn).get 0 (by omega)
  have hn : n = 1 := by have := h.1; omega
  subst hn
  have hp : ps[0] = part ps 0 := by simp [part, List.getD_eq_getElem?_getD, List.getElem?_eq_getElem (show 0 < ps.length by omega)]
  rw [hp, Nat.add_zero] at e0
  have hsz : (part ps 0).size ≤ 536870912 := Nat.le_trans (part_le ps 0) hs
  clear hp hs h
  rcases hk with k | k
  · have hte : textBy t.kind t.name t.other t.n t.type t.res ps = ⟨#[40, 114, 117, 110, 32]⟩ ++ part ps 0 ++ ⟨#[41]⟩ := by simp [textBy, k]
    rw [hte]
    generalize part ps 0 = x at e0 hsz
    have g5 : (t.kind == 5) = false := by rw [k]; rfl
    have g6 : (t.kind == 6) = false := by rw [k]; rfl
    have g7 : (t.kind == 7) = false := by rw [k]; rfl
    have g8 : (t.kind == 8) = false := by rw [k]; rfl
    have g9 : (t.kind == 9) = false := by rw [k]; rfl
    have g12 : (t.kind == 12) = true := beq_iff_eq.2 k
    clear k hte
    go_enter Tryz.func127, Tryz.ntmps127
    go_wp2_with fail
    go_ret
    exact ⟨rfl, bn⟩
  · have hte : textBy t.kind t.name t.other t.n t.type t.res ps = ⟨#[40, 108, 105, 102, 116, 32]⟩ ++ part ps 0 ++ ⟨#[41]⟩ := by simp [textBy, k]
    rw [hte]
    generalize part ps 0 = x at e0 hsz
    have g5 : (t.kind == 5) = false := by rw [k]; rfl
    have g6 : (t.kind == 6) = false := by rw [k]; rfl
    have g7 : (t.kind == 7) = false := by rw [k]; rfl
    have g8 : (t.kind == 8) = false := by rw [k]; rfl
    have g9 : (t.kind == 9) = false := by rw [k]; rfl
    have g12 : (t.kind == 12) = false := by rw [k]; rfl
    clear k hte
    go_enter Tryz.func127, Tryz.ntmps127
    go_wp2_with fail
    go_ret
    exact ⟨rfl, bn⟩
end Go.Proofs.YtklifieahcoljaaGreat

namespace Go.Proofs.YtklifieahcoljaaGreat
open Go.RowKit
set_option linter.unusedVariables false
set_option linter.unusedSimpArgs false

/-- The representation of a valid type, nothing for others. -/
def Ty.fmt (t : Ty) : List UInt8 := if t.valid = true then t.text else []
theorem Ty.valid_all {t : Ty} (h : t.valid = true) : t.all Ty.formed = true ∧ t.size ≤ 30 := by
  simp only [Ty.valid, Bool.and_eq_true, decide_eq_true_eq] at h
  exact ⟨h.2.2, h.1⟩

end Go.Proofs.YtklifieahcoljaaGreat

namespace Go.Proofs.YtklifieahcoljaaGreat
open Go.RowKit
set_option maxRecDepth 100000
set_option linter.unusedVariables false
set_option linter.unusedSimpArgs false

set_option maxHeartbeats 3200000 in
theorem l6Long_let (t : Tm) (l : Lt) (ps : List ByteArray) (a : Option Addr) (n cap : Nat) (w : World) (h : Rss w ps a n cap) (hN : ps.length ≤ 1048576) (hs : sumS ps ≤ 536870912) (hnm : t.name.size ≤ 4) (k : t.kind = 8) :
    Calls Tryz.prog 127 #[.agg #[.int .i64 t.kind, .string t.name, .string t.other, .int .i64 t.n, .int .i64 t.type.kind, .slice l.ta l.tn l.tc, .int .i64 t.res.kind, .slice l.ra l.rn l.rc, .slice l.aa l.an l.ac], .slice a n cap] w fun e w' => e = .returned (.string (textBy t.kind t.name t.other t.n t.type t.res ps)) ∧ Below w.heap.size w w' := by
  have bn := below_new w (.cells #[.int .i64 t.kind, .string t.name, .string t.other, .int .i64 t.n, .int .i64 t.type.kind, .slice l.ta l.tn l.tc, .int .i64 t.res.kind, .slice l.ra l.rn l.rc, .slice l.aa l.an l.ac] 29)
  have B := Blk.new w 29 #[.int .i64 t.kind, .string t.name, .string t.other, .int .i64 t.n, .int .i64 t.type.kind, .slice l.ta l.tn l.tc, .int .i64 t.res.kind, .slice l.ra l.rn l.rc, .slice l.aa l.an l.ac]
  have hsz : sizeSs ps ≤ 1073741824 := by unfold sizeSs; unfold sumS at hs; omega
  have C : Hid (∀ W, Below w.heap.size w W → Calls Tryz.prog 130 #[.slice a n cap, .string ⟨#[32]⟩] W fun e w' => e = .returned (.string (spaced ps)) ∧ Below W.heap.size W w') := fun W hW => specJoin_big ps ⟨#[32]⟩ a n cap W (h.below hW) (by simp [ByteArray.size]) hN hsz
  have hsp := spaced_le ps
  have hsp2 : (spaced ps).size ≤ 1073741824 := by omega
  have hte : textBy t.kind t.name t.other t.n t.type t.res ps = ⟨#[40, 108, 101, 116, 32]⟩ ++ t.name ++ ⟨#[61]⟩ ++ spaced ps ++ ⟨#[41]⟩ := by simp [textBy, k]
  rw [hte]
  generalize spaced ps = x at C hsp2
  have g5 : (t.kind == 5) = false := by rw [k]; rfl
  have g6 : (t.kind == 6) = false := by rw [k]; rfl
  have g7 : (t.kind == 7) = false := by rw [k]; rfl
  have g8 : (t.kind == 8) = true := beq_iff_eq.2 k
  clear k hte hsp hsz hs h
  have hs1 : ¬ 9223372036854775807 < 5 + t.name.size := by omega
  have hs2 : ¬ 9223372036854775807 < 5 + t.name.size + 1 := by omega
  have hs3 : ¬ 9223372036854775807 < 5 + t.name.size + 1 + x.size := by omega
  have hs4 : ¬ 9223372036854775807 < 5 + t.name.size + 1 + x.size + 1 := by omega
  have HS := hide (fun (W : World) (hW : Below (w.alloc (.cells #[.int .i64 t.kind, .string t.name, .string t.other, .int .i64 t.n, .int .i64 t.type.kind, .slice l.ta l.tn l.tc, .int .i64 t.res.kind, .slice l.ra l.rn l.rc, .slice l.aa l.an l.ac] 29)).heap.size (w.alloc (.cells #[.int .i64 t.kind, .string t.name, .string t.other, .int .i64 t.n, .int .i64 t.type.kind, .slice l.ta l.tn l.tc, .int .i64 t.res.kind, .slice l.ra l.rn l.rc, .slice l.aa l.an l.ac] 29)) W) => (B.under hW).cell 1)
  have kb := below_drew (w.alloc (.cells #[.int .i64 t.kind, .string t.name, .string t.other, .int .i64 t.n, .int .i64 t.type.kind, .slice l.ta l.tn l.tc, .int .i64 t.res.kind, .slice l.ra l.rn l.rc, .slice l.aa l.an l.ac] 29))
  go_enter Tryz.func127, Tryz.ntmps127
  go_wp2_with fail
  go_region_held3 (fun W => W.cell? ⟨w.heap.size, 1, none⟩ = some (.string t.name))
    (first | exact HS.out _ kb | exact HS.out _ q1)
    (first | (go_at_call 130; (with_reducible refine (C.out _ (below_next bn kb)).mono ?_); rintro e w1 ⟨rfl, b1⟩; have q1 := below_next kb b1))
  go_wp2_with fail
  go_ret
  exact ⟨rfl, below_next bn q1⟩
set_option maxHeartbeats 3200000 in
theorem l6Long_lam (t : Tm) (l : Lt) (ps : List ByteArray) (a : Option Addr) (n cap : Nat) (w : World) (hT : Rd w t.type (.int .i64 t.type.kind) (.slice l.ta l.tn l.tc)) (h : Rss w ps a n cap) (hN : ps.length = 1) (hs : sumS ps ≤ 536870912) (hnm : t.name.size ≤ 4) (hv : t.type.valid = true) (k : t.kind = 6) :
    Calls Tryz.prog 127 #[.agg #[.int .i64 t.kind, .string t.name, .string t.other, .int .i64 t.n, .int .i64 t.type.kind, .slice l.ta l.tn l.tc, .int .i64 t.res.kind, .slice l.ra l.rn l.rc, .slice l.aa l.an l.ac], .slice a n cap] w fun e w' => e = .returned (.string (textBy t.kind t.name t.other t.n t.type t.res ps)) ∧ Below w.heap.size w w' := by
  have bn := below_new w (.cells #[.int .i64 t.kind, .string t.name, .string t.other, .int .i64 t.n, .int .i64 t.type.kind, .slice l.ta l.tn l.tc, .int .i64 t.res.kind, .slice l.ra l.rn l.rc, .slice l.aa l.an l.ac] 29)
  have B := Blk.new w 29 #[.int .i64 t.kind, .string t.name, .string t.other, .int .i64 t.n, .int .i64 t.type.kind, .slice l.ta l.tn l.tc, .int .i64 t.res.kind, .slice l.ra l.rn l.rc, .slice l.aa l.an l.ac]
  obtain ⟨b, off, rfl, hlt, e0⟩ := h.get 0 (by omega)
  have hn : n = 1 := by have := h.1; omega
  subst hn
  have hp : ps[0] = part ps 0 := by simp [part, List.getD_eq_getElem?_getD, List.getElem?_eq_getElem (show 0 < ps.length by omega)]
  rw [hp, Nat.add_zero] at e0
  have hsz : (part ps 0).size ≤ 536870912 := Nat.le_trans (part_le ps 0) hs
  obtain ⟨hva, hvs⟩ := Ty.valid_all hv
  have C : Hid (∀ W, Below w.heap.size w W → Calls Tryz.prog 131 #[.agg #[.int .i64 t.type.kind, .slice l.ta l.tn l.tc]] W fun e w' => e = .returned (.string t.type.str) ∧ Below W.heap.size W w') := fun W hW => l4Text_any t.type _ _ W (hT.below hW) hva (by omega)
  have hsp2 := t.type.str_le hv
  have hte : textBy t.kind t.name t.other t.n t.type t.res ps = ⟨#[40, 92]⟩ ++ t.name ++ ⟨#[58]⟩ ++ t.type.str ++ ⟨#[46]⟩ ++ part ps 0 ++ ⟨#[41]⟩ := by simp [textBy, k]
  rw [hte]
  generalize t.type.str = x at C hsp2
  generalize part ps 0 = y at e0 hsz
  have g5 : (t.kind == 5) = false := by rw [k]; rfl
  have g6 : (t.kind == 6) = true := beq_iff_eq.2 k
  clear k hte hs h hp hva hvs hv
  have hs1 : ¬ 9223372036854775807 < 2 + t.name.size := by omega
  have hs2 : ¬ 9223372036854775807 < 2 + t.name.size + 1 := by omega
  have hs3 : ¬ 9223372036854775807 < 2 + t.name.size + 1 + x.size := by omega
  have hs4 : ¬ 9223372036854775807 < 2 + t.name.size + 1 + x.size + 1 := by omega
  have hs5 : ¬ 9223372036854775807 < 2 + t.name.size + 1 + x.size + 1 + y.size := by omega
  have hs6 : ¬ 9223372036854775807 < 2 + t.name.size + 1 + x.size + 1 + y.size + 1 := by omega
  have HS := hide (fun (W : World) (hW : Below (w.alloc (.cells #[.int .i64 t.kind, .string t.name, .string t.other, .int .i64 t.n, .int .i64 t.type.kind, .slice l.ta l.tn l.tc, .int .i64 t.res.kind, .slice l.ra l.rn l.rc, .slice l.aa l.an l.ac] 29)).heap.size (w.alloc (.cells #[.int .i64 t.kind, .string t.name, .string t.other, .int .i64 t.n, .int .i64 t.type.kind, .slice l.ta l.tn l.tc, .int .i64 t.res.kind, .slice l.ra l.rn l.rc, .slice l.aa l.an l.ac] 29)) W) =>
    show W.cell? ⟨w.heap.size, 1, none⟩ = some (.string t.name) ∧ W.cell? ⟨w.heap.size, 4, none⟩ = some (.int .i64 t.type.kind) ∧ W.cell? ⟨w.heap.size, 5, none⟩ = some (.slice l.ta l.tn l.tc) ∧ W.cell? ⟨b, off, none⟩ = some (.string y) from
    ⟨(B.under hW).cell 1, (B.under hW).cell 4, (B.under hW).cell 5, ((below_next bn hW).cell hlt).trans e0⟩)
  have kb := below_drew (w.alloc (.cells #[.int .i64 t.kind, .string t.name, .string t.other, .int .i64 t.n, .int .i64 t.type.kind, .slice l.ta l.tn l.tc, .int .i64 t.res.kind, .slice l.ra l.rn l.rc, .slice l.aa l.an l.ac] 29))
  clear e0
  go_enter Tryz.func127, Tryz.ntmps127
  go_wp2_with fail
  go_region_held3 (fun W => W.cell? ⟨w.heap.size, 1, none⟩ = some (.string t.name) ∧ W.cell? ⟨w.heap.size, 4, none⟩ = some (.int .i64 t.type.kind) ∧ W.cell? ⟨w.heap.size, 5, none⟩ = some (.slice l.ta l.tn l.tc) ∧ W.cell? ⟨b, off, none⟩ = some (.string y))
    (first | exact HS.out _ kb | exact HS.out _ q1)
    (first | (go_at_call 131; (with_reducible refine (C.out _ (below_next bn kb)).mono ?_); rintro e w1 ⟨rfl, b1⟩; have q1 := below_next kb b1))
  go_wp2_with fail
  go_ret
  exact ⟨rfl, below_next bn q1⟩
set_option maxHeartbeats 6400000 in
theorem l6Long_rec (t : Tm) (l : Lt) (ps : List ByteArray) (a : Option Addr) (n cap : Nat) (w : World) (hT : Rd w t.type (.int .i64 t.type.kind) (.slice l.ta l.tn l.tc)) (hR : Rd w t.res (.int .i64 t.res.kind) (.slice l.ra l.rn l.rc)) (h : Rss w ps a n cap) (hN : ps.length = 1) (hs : sumS ps ≤ 536870912) (hnm : t.name.size ≤ 4) (hot : t.other.size ≤ 4) (hv : t.type.valid = true) (hv2 : t.res.valid = true) (k : t.kind = 9) :
    Calls Tryz.prog 127 #[.agg #[.int .i64 t.kind, .string t.name, .string t.other, .int .i64 t.n, .int .i64 t.type.kind, .slice l.ta l.tn l.tc, .int .i64 t.res.kind, .slice l.ra l.rn l.rc, .slice l.aa l.an l.ac], .slice a n cap] w fun e w' => e = .returned (.string (textBy t.kind t.name t.other t.n t.type t.res ps)) ∧ Below w.heap.size w w' := by
  have bn := below_new w (.cells #[.int .i64 t.kind, .string t.name, .string t.other, .int .i64 t.n, .int .i64 t.type.kind, .slice l.ta l.tn l.tc, .int .i64 t.res.kind, .slice l.ra l.rn l.rc, .slice l.aa l.an l.ac] 29)
  have B := Blk.new w 29 #[.int .i64 t.kind, .string t.name, .string t.other, .int .i64 t.n, .int .i64 t.type.kind, .slice l.ta l.tn l.tc, .int .i64 t.res.kind, .slice l.ra l.rn l.rc, .slice l.aa l.an l.ac]
  obtain ⟨b, off, rfl, hlt, e0⟩ := h.get 0 (by omega)
  have hn : n = 1 := by have := h.1; omega
  subst hn
  have hp : ps[0] = part ps 0 := by simp [part, List.getD_eq_getElem?_getD, List.getElem?_eq_getElem (show 0 < ps.length by omega)]
  rw [hp, Nat.add_zero] at e0
  have hsz : (part ps 0).size ≤ 536870912 := Nat.le_trans (part_le ps 0) hs
  obtain ⟨hva, hvs⟩ := Ty.valid_all hv
  obtain ⟨hva2, hvs2⟩ := Ty.valid_all hv2
  have C : Hid (∀ W, Below w.heap.size w W → Calls Tryz.prog 131 #[.agg #[.int .i64 t.type.kind, .slice l.ta l.tn l.tc]] W fun e w' => e = .returned (.string t.type.str) ∧ Below W.heap.size W w') := fun W hW => l4Text_any t.type _ _ W (hT.below hW) hva (by omega)
  have C2 : Hid (∀ W, Below w.heap.size w W → Calls Tryz.prog 131 #[.agg #[.int .i64 t.res.kind, .slice l.ra l.rn l.rc]] W fun e w' => e = .returned (.string t.res.str) ∧ Below W.heap.size W w') := fun W hW => l4Text_any t.res _ _ W (hR.below hW) hva2 (by omega)
  have hsp2 := t.type.str_le hv
  have hsp3 := t.res.str_le hv2
  have hte : textBy t.kind t.name t.other t.n t.type t.res ps = ⟨#[40, 114, 101, 99, 32]⟩ ++ t.name ++ ⟨#[32]⟩ ++ t.other ++ ⟨#[58]⟩ ++ t.type.str ++ ⟨#[62]⟩ ++ t.res.str ++ ⟨#[46]⟩ ++ part ps 0 ++ ⟨#[41]⟩ := by simp [textBy, k]
  rw [hte]
  generalize t.type.str = x at C hsp2
  generalize t.res.str = z at C2 hsp3
  generalize part ps 0 = y at e0 hsz
  have g5 : (t.kind == 5) = false := by rw [k]; rfl
  have g6 : (t.kind == 6) = false := by rw [k]; rfl
  have g7 : (t.kind == 7) = false := by rw [k]; rfl
  have g8 : (t.kind == 8) = false := by rw [k]; rfl
  have g9 : (t.kind == 9) = true := beq_iff_eq.2 k
  clear k hte hs h hp hva hvs hva2 hvs2 hv hv2
  have hs1 : ¬ 9223372036854775807 < 5 + t.name.size := by omega
  have hs2 : ¬ 9223372036854775807 < 5 + t.name.size + 1 := by omega
  have hs3 : ¬ 9223372036854775807 < 5 + t.name.size + 1 + t.other.size := by omega
  have hs4 : ¬ 9223372036854775807 < 5 + t.name.size + 1 + t.other.size + 1 := by omega
  have hs5 : ¬ 9223372036854775807 < 5 + t.name.size + 1 + t.other.size + 1 + x.size := by omega
  have hs6 : ¬ 9223372036854775807 < 5 + t.name.size + 1 + t.other.size + 1 + x.size + 1 := by omega
  have hs7 : ¬ 9223372036854775807 < 5 + t.name.size + 1 + t.other.size + 1 + x.size + 1 + z.size := by omega
  have hs8 : ¬ 9223372036854775807 < 5 + t.name.size + 1 + t.other.size + 1 + x.size + 1 + z.size + 1 := by omega
  have hs9 : ¬ 9223372036854775807 < 5 + t.name.size + 1 + t.other.size + 1 + x.size + 1 + z.size + 1 + y.size := by omega
  have hs10 : ¬ 9223372036854775807 < 5 + t.name.size + 1 + t.other.size + 1 + x.size + 1 + z.size + 1 + y.size + 1 := by omega
  have HS := hide (fun (W : World) (hW : Below (w.alloc (.cells #[.int .i64 t.kind, .string t.name, .string t.other, .int .i64 t.n, .int .i64 t.type.kind, .slice l.ta l.tn l.tc, .int .i64 t.res.kind, .slice l.ra l.rn l.rc, .slice l.aa l.an l.ac] 29)).heap.size (w.alloc (.cells #[.int .i64 t.kind, .string t.name, .string t.other, .int .i64 t.n, .int .i64 t.type.kind, .slice l.ta l.tn l.tc, .int .i64 t.res.kind, .slice l.ra l.rn l.rc, .slice l.aa l.an l.ac] 29)) W) =>
    show W.cell? ⟨w.heap.size, 1, none⟩ = some (.string t.name) ∧ W.cell? ⟨w.heap.size, 2, none⟩ = some (.string t.other) ∧ W.cell? ⟨w.heap.size, 4, none⟩ = some (.int .i64 t.type.kind) ∧ W.cell? ⟨w.heap.size, 5, none⟩ = some (.slice l.ta l.tn l.tc) ∧ W.cell? ⟨w.heap.size, 6, none⟩ = some (.int .i64 t.res.kind) ∧ W.cell? ⟨w.heap.size, 7, none⟩ = some (.slice l.ra l.rn l.rc) ∧ W.cell? ⟨b, off, none⟩ = some (.string y) from
    ⟨(B.under hW).cell 1, (B.under hW).cell 2, (B.under hW).cell 4, (B.under hW).cell 5, (B.under hW).cell 6, (B.under hW).cell 7, ((below_next bn hW).cell hlt).trans e0⟩)
  have kb := below_drew (w.alloc (.cells #[.int .i64 t.kind, .string t.name, .string t.other, .int .i64 t.n, .int .i64 t.type.kind, .slice l.ta l.tn l.tc, .int .i64 t.res.kind, .slice l.ra l.rn l.rc, .slice l.aa l.an l.ac] 29))
  clear e0
  go_enter Tryz.func127, Tryz.ntmps127
  go_wp2_with fail
  go_region_held3 (fun W => W.cell? ⟨w.heap.size, 1, none⟩ = some (.string t.name) ∧ W.cell? ⟨w.heap.size, 2, none⟩ = some (.string t.other) ∧ W.cell? ⟨w.heap.size, 4, none⟩ = some (.int .i64 t.type.kind) ∧ W.cell? ⟨w.heap.size, 5, none⟩ = some (.slice l.ta l.tn l.tc) ∧ W.cell? ⟨w.heap.size, 6, none⟩ = some (.int .i64 t.res.kind) ∧ W.cell? ⟨w.heap.size, 7, none⟩ = some (.slice l.ra l.rn l.rc) ∧ W.cell? ⟨b, off, none⟩ = some (.string y))
    (first | exact HS.out _ kb | exact HS.out _ q1 | exact HS.out _ q2)
    (first
      | (go_at_call 131; (with_reducible refine (C.out _ (below_next bn kb)).mono ?_); rintro e w1 ⟨rfl, b1⟩; have q1 := below_next kb b1)
      | (go_at_call 131; (with_reducible refine (C2.out _ (below_next bn q1)).mono ?_); rintro e w2 ⟨rfl, b2⟩; have q2 := below_next q1 b2))
  go_wp2_with fail
  go_ret
  exact ⟨rfl, below_next bn q2⟩
end Go.Proofs.YtklifieahcoljaaGreat

namespace Go.Proofs.YtklifieahcoljaaGreat
set_option maxRecDepth 100000
set_option linter.unusedVariables false
set_option linter.unusedSimpArgs false

theorem toList_inj {a b : ByteArray} (h : (a.toList == b.toList) = true) : a.toList = b.toList := by simpa using h

/-- s is among the names. -/
def hasN (xs : List ByteArray) (s : ByteArray) : Bool := xs.any fun x => s.toList == x.toList
/-- One name more, unless it is there. -/
def addN (xs : List ByteArray) (s : ByteArray) : List ByteArray := if hasN xs s then xs else xs ++ [s]
def uniteN (a b : List ByteArray) : List ByteArray := (a ++ b).foldl addN []
def withoutN (xs : List ByteArray) (s : ByteArray) : List ByteArray := xs.filter fun x => !(x.toList == s.toList)
theorem fIdx_has (xs : List ByteArray) (s : ByteArray) : decide (fIdx (fun x => s.toList == x.toList) xs < 0) = !hasN xs s := by
  have h := fIdx_ge (fun x => s.toList == x.toList) xs
  rw [hasN, ← h, Bool.eq_iff_iff]
  simp
theorem foldl_addN_len (b : List ByteArray) : ∀ a : List ByteArray, a.length ≤ (b.foldl addN a).length ∧ (b.foldl addN a).length ≤ a.length + b.length := by
  induction b with
  | nil => intro a; simp
  | cons x xs ih =>
    intro a
    have h := ih (addN a x)
    have h1 : a.length ≤ (addN a x).length ∧ (addN a x).length ≤ a.length + 1 := by
      unfold addN
      split <;> simp
    simp only [List.foldl_cons, List.length_cons]
    omega
theorem uniteN_len (a b : List ByteArray) : (uniteN a b).length ≤ a.length + b.length := by
  have := (foldl_addN_len (a ++ b) []).2
  simpa [uniteN] using this
theorem foldl_addN_mem (b : List ByteArray) : ∀ a : List ByteArray, ∀ x ∈ b.foldl addN a, x ∈ a ∨ x ∈ b := by
  induction b with
  | nil => intro a x hx; exact .inl hx
  | cons y ys ih =>
    intro a x hx
    rcases ih (addN a y) x hx with h | h
    · unfold addN at h
      split at h
      · exact .inl h
      · rcases List.mem_append.1 h with h | h
        · exact .inl h
        · exact .inr (by simp at h; simp [h])
    · exact .inr (by simp [h])
theorem uniteN_mem {a b : List ByteArray} {x : ByteArray} (h : x ∈ uniteN a b) : x ∈ a ∨ x ∈ b := by
  rcases foldl_addN_mem _ _ x h with h | h
  · cases h
  · exact List.mem_append.1 h
theorem withoutN_take (xs : List ByteArray) (s : ByteArray) (k : Nat) (h : k < xs.length) : withoutN (xs.take (k + 1)) s = withoutN (xs.take k) s ++ (if xs[k].toList == s.toList then [] else [xs[k]]) := by
  rw [take_snoc xs k h, withoutN, List.filter_append]
  congr 1
  cases hq : (xs[k].toList == s.toList) <;> simp [hq]
theorem foldl_take (xs : List ByteArray) (a : List ByteArray) (k : Nat) (h : k < xs.length) : (xs.take (k + 1)).foldl addN a = addN ((xs.take k).foldl addN a) xs[k] := by
  rw [take_snoc xs k h, List.foldl_append]
  rfl

/-- The names that a node binds, and in which part. -/
def boundN (t : Tm) : List ByteArray × Int :=
  if t.kind == 6 && t.args.length == 1 then ([t.name], 0) else if t.kind == 8 && t.args.length == 2 then ([t.name], 1) else if t.kind == 9 && t.args.length == 1 then ([t.name, t.other], 0) else ([], -1)
mutual
/-- The free names. -/
def Tm.free : Tm → List ByteArray
  | ⟨k, nm, ot, n, ty, re, xs⟩ => if k == 1 then [nm] else Tm.frees (boundN ⟨k, nm, ot, n, ty, re, xs⟩) xs 0 []
def Tm.frees (b : List ByteArray × Int) : List Tm → Nat → List ByteArray → List ByteArray
  | [], _, out => out
  | t :: ts, i, out => Tm.frees b ts (i + 1) (uniteN out (if (i : Int) == b.2 then t.free.filter (fun s => !hasN b.1 s) else t.free))
end
theorem Tm.free_eq (t : Tm) : t.free = if t.kind == 1 then [t.name] else Tm.frees (boundN t) t.args 0 [] := by cases t; rw [Tm.free]
theorem Tm.frees_append (b : List ByteArray × Int) (xs ys : List Tm) : ∀ i out, Tm.frees b (xs ++ ys) i out = Tm.frees b ys (i + xs.length) (Tm.frees b xs i out) := by
  induction xs with
  | nil => intro i out; rfl
  | cons x xs ih =>
    intro i out
    rw [List.cons_append, Tm.frees, Tm.frees, ih]
    congr 1
    simp only [List.length_cons]
    omega
/-- What a part adds. -/
def partN (b : List ByteArray × Int) (t : Tm) (i : Nat) : List ByteArray := if (i : Int) == b.2 then t.free.filter (fun s => !hasN b.1 s) else t.free
theorem Tm.frees_take (b : List ByteArray × Int) (xs : List Tm) (k : Nat) (h : k < xs.length) : Tm.frees b (xs.take (k + 1)) 0 [] = uniteN (Tm.frees b (xs.take k) 0 []) (partN b xs[k] k) := by
  rw [take_snoc xs k h, Tm.frees_append]
  have : (xs.take k).length = k := by simp; omega
  rw [Tm.frees, Tm.frees, this, Nat.zero_add]
  rfl
theorem partN_len (b : List ByteArray × Int) (t : Tm) (i : Nat) : (partN b t i).length ≤ t.free.length := by
  unfold partN
  split
  · exact List.length_filter_le _ _
  · exact Nat.le_refl _
theorem Tm.frees_len_of (b : List ByteArray × Int) (xs : List Tm) (h : ∀ t ∈ xs, t.free.length ≤ t.size) : ∀ i out, (Tm.frees b xs i out).length ≤ out.length + Tm.sizes xs := by
  induction xs with
  | nil => intro i out; rw [Tm.frees]; omega
  | cons x xs ih =>
    intro i out
    rw [Tm.frees]
    have h1 := h x (by simp)
    have h2 := ih (fun t ht => h t (by simp [ht])) (i + 1) (uniteN out (partN b x i))
    have h3 := uniteN_len out (partN b x i)
    have h4 := partN_len b x i
    simp only [Tm.sizes]
    unfold partN at h2 h3 h4
    omega
theorem Tm.free_len (t : Tm) : t.free.length ≤ t.size := by
  induction t using Tm.ind' with | h t ih => ?_
  rw [Tm.free_eq]
  have := Tm.frees_len_of (boundN t) t.args ih 0 []
  have := t.size_eq
  split
  · simp only [List.length_cons, List.length_nil]; omega
  · simp only [List.length_nil] at *; omega
theorem Tm.frees_size_of (b : List ByteArray × Int) (N : Nat) (xs : List Tm) (h : ∀ t ∈ xs, ∀ s ∈ t.free, s.size ≤ N) : ∀ i out, (∀ s ∈ out, s.size ≤ N) → ∀ s ∈ Tm.frees b xs i out, s.size ≤ N := by
  induction xs with
  | nil => intro i out ho; rw [Tm.frees]; exact ho
  | cons x xs ih =>
    intro i out ho
    rw [Tm.frees]
    refine ih (fun t ht => h t (by simp [ht])) _ _ fun s hs => ?_
    rcases uniteN_mem hs with hs | hs
    · exact ho s hs
    · split at hs
      · exact h x (by simp) s ((List.mem_filter.1 hs).1)
      · exact h x (by simp) s hs
end Go.Proofs.YtklifieahcoljaaGreat

namespace Go.Proofs.YtklifieahcoljaaGreat
open Go.RowKit
set_option maxRecDepth 100000
set_option linter.unusedVariables false
set_option linter.unusedSimpArgs false

/-- Strings in memory of the call's own, from block 'base' on. -/
abbrev OwnS (base : Nat) (w : World) (v : Value) (xs : List ByteArray) : Prop := w.ownsRow base 9 1 v xs.length (xs.map Value.string)
theorem OwnS.read {base : Nat} {w : World} {v : Value} {xs : List ByteArray} (h : OwnS base w v xs) (hs : ∀ x ∈ xs, x.size ≤ 9223372036854775807) : ∃ a cap, v = .slice a xs.length cap ∧ Rss w xs a xs.length cap := by
  rcases h.2 with ⟨rfl, hn⟩ | ⟨g, cap, cur, rfl, hb, hg, hle, hm, hsz, htk⟩
  · have : xs = [] := List.length_eq_zero_iff.1 hn
    subst this
    exact ⟨none, 0, rfl, rfl, Nat.le_refl _, by simp, by simp, .inl rfl⟩
  · refine ⟨some ⟨g, 0, none⟩, cap, rfl, rfl, hle, hm, hs, ?_⟩
    by_cases hx : xs = []
    · exact .inl hx
    · refine .inr ⟨hx, g, 0, rfl, fun i hi => ?_⟩
      have := h.cells (g := g) rfl i (.string xs[i]) (by simp [hi])
      simpa [Addr.add_lit] using this
/-- An empty slice that is not nil. -/
theorem OwnS.none_ (w : World) (base : Nat) (hb : base ≤ w.heap.size) : OwnS base (w.alloc (.cells #[] 9)) (.slice (some ⟨w.heap.size, 0, none⟩) 0 0) [] :=
  World.ownsRow_made w #[] 0 hb (by simp) (by simp)
theorem OwnS.below {base : Nat} {w w' : World} {v : Value} {xs : List ByteArray} (h : OwnS base w v xs) (hb : Below w.heap.size w w') : OwnS base w' v xs := by
  refine ⟨h.1, ?_⟩
  rcases h.2 with hn | ⟨g, cap, cur, rfl, hg, hh, r⟩
  · exact .inl hn
  · exact .inr ⟨g, cap, cur, rfl, hg, (hb.block g (Array.getElem?_eq_some_iff.1 hh).1).trans hh, r⟩
theorem OwnS.free {base : Nat} {w : World} {v : Value} {xs : List ByteArray} (h : OwnS base w v xs) {a : Option Addr} {n cap : Nat} (hv : v = .slice a n cap) : ∀ p, a = some p → ∃ g cur, p = ⟨g, 0, none⟩ ∧ base ≤ g ∧ Blk w g 9 cur ∧ xs.length ≤ cur.size := by
  intro p hp
  subst hp
  rcases h.2 with ⟨rfl, _⟩ | ⟨g, cap', cur, rfl, hb, hg, hle, hm, hsz, htk⟩
  · cases hv
  · injection hv with h1 h2 h3
    injection h1 with h1
    exact ⟨g, cur, h1.symm, hb, hg, by omega⟩
theorem one_new (w : World) (x : Value) (T : TypeId) : ∀ j u, [x][j]? = some u → (w.alloc (.cells #[x] T)).cell? ((⟨w.heap.size, 0, none⟩ : Addr).add j) = some u :=
  World.news_of_block (cs := #[x]) (t := T) (fr := (0, 0)) (heap_alloc_new w _)
theorem one_cell (x : ByteArray) : ∀ u ∈ [Value.string x], u.oneCell' = true := by
  intro u hu
  simp at hu
  subst hu
  rfl
theorem own_step {base : Nat} {w1 : World} {v : Value} {xs ys : List ByteArray} {x : ByteArray} {q : Nat} {cs : List Value} (hq : q = xs.length) (hc : cs = xs.map Value.string)
    (h : w1.ownsRow base 9 1 v (q + 1) (cs ++ [.string x])) (hy : ys = xs ++ [x]) : OwnS base w1 v ys := by
  subst hq hc hy
  simpa [OwnS] using h
/-- What a call gives that makes a list of strings. -/
def GivesS (w : World) (xs : List ByteArray) (e : Ending) (w' : World) : Prop := ∃ v, e = .returned v ∧ OwnS w.heap.size w' v xs ∧ Below w.heap.size w w'

theorem Tryz.infoStr : (Tryz.prog.info? 9).map (fun i => (i.zero, i.size, i.bytes)) = some (some (.string ⟨#[]⟩), 1, 16) := by kernel_rfl

end Go.Proofs.YtklifieahcoljaaGreat

namespace Go.Proofs.YtklifieahcoljaaGreat
open Go.RowKit
set_option maxRecDepth 100000
set_option linter.unusedVariables false
set_option linter.unusedSimpArgs false

theorem Tm.size_le_wt (t : Tm) : t.size ≤ 1 + t.wt := by
  have h1 := t.args_le_wt
  rw [Tm.size_eq]
  omega
theorem texts_le : ∀ (xs : List Tm), xs.all Tm.ok = true → sumS (xs.map Tm.text) ≤ 256 * Tm.sizes xs
  | [], _ => by simp [sumS]
  | x :: xs, h => by
    simp only [List.all_cons, Bool.and_eq_true] at h
    have h1 := x.text_le h.1
    have h2 := texts_le xs h.2
    simp only [sumS, List.map_cons, List.sum_cons, Tm.sizes] at h2 ⊢
    omega
theorem Tm.ok_parts {t : Tm} (h : t.ok = true) : formI t = true ∧ t.args.all Tm.ok = true := by
  have h' : (formI t && t.args.all Tm.ok) = true := by rw [← h]; exact (Tm.all_eq formI t).symm
  simpa using h'
theorem sumS_take_le (ps : List ByteArray) (j : Nat) : sumS (ps.take j) ≤ sumS ps := sizeSs_take_le ps j
theorem mem_le_sumS {ps : List ByteArray} {x : ByteArray} (h : x ∈ ps) : x.size ≤ sumS ps := by
  induction ps with
  | nil => cases h
  | cons p ps ih =>
    simp only [sumS, List.map_cons, List.sum_cons] at ih ⊢
    rcases List.mem_cons.1 h with rfl | h
    · omega
    · have := ih h
      omega
theorem ft_slice {n : Int} (h : n = 0 ∨ n = 1) : 0 ≤ n ∧ n ≤ 1 := by omega

theorem len_op {t : Tm} (hf : formI t = true) (k : t.kind = 4) : t.args.length = 1 ∨ t.args.length = 2 := by
  have h9 := (form_facts hf).2.2.2.2.2.2.2.2
  simp only [formI, Bool.and_eq_true] at hf
  have h : 0 < opArity t.name := by simpa [namedI, k] using hf.2.1
  rw [k] at h9
  have h9' : (t.args.length : Int) = opArity t.name := by simpa [arityI] using h9
  unfold opArity at h h9'
  repeat' split at h9'
  all_goals simp_all
  all_goals omega
theorem len_one {t : Tm} (hf : formI t = true) (k : t.kind = 6 ∨ t.kind = 9 ∨ t.kind = 10 ∨ t.kind = 11 ∨ t.kind = 12 ∨ t.kind = 13) : t.args.length = 1 := by
  have h9 := (form_facts hf).2.2.2.2.2.2.2.2
  rcases k with k | k | k | k | k | k <;> rw [k] at h9 <;> (simp [arityI] at h9; omega)
theorem l6Long_all (t : Tm) (l : Lt) (ps : List ByteArray) (a : Option Addr) (n cap : Nat) (w : World) (hf : formI t = true) (hT : Rd w t.type (.int .i64 t.type.kind) (.slice l.ta l.tn l.tc)) (hR : Rd w t.res (.int .i64 t.res.kind) (.slice l.ra l.rn l.rc))
    (h : Rss w ps a n cap) (hN : ps.length = t.args.length) (hN2 : ps.length ≤ 1048576) (hs : sumS ps ≤ 536870912) (k1 : t.kind ≠ 1) (k2 : t.kind ≠ 2) (k3 : t.kind ≠ 3) (k4 : t.kind ≠ 4) (k10 : t.kind ≠ 10) (k11 : t.kind ≠ 11) :
    Calls Tryz.prog 127 #[.agg #[.int .i64 t.kind, .string t.name, .string t.other, .int .i64 t.n, .int .i64 t.type.kind, .slice l.ta l.tn l.tc, .int .i64 t.res.kind, .slice l.ra l.rn l.rc, .slice l.aa l.an l.ac], .slice a n cap] w fun e w' => e = .returned (.string (textBy t.kind t.name t.other t.n t.type t.res ps)) ∧ Below w.heap.size w w' := by
  obtain ⟨f1, f2, f3, f4, f5, f6, f7, f8, f9⟩ := form_facts hf
  have hk : (t.kind = 5 ∨ t.kind = 7) ∨ t.kind = 8 ∨ t.kind = 6 ∨ t.kind = 9 ∨ (t.kind = 12 ∨ t.kind = 13) := by omega
  rcases hk with k | k | k | k | k
  · exact l6Long_join t l ps a n cap w h hN2 hs k
  · exact l6Long_let t l ps a n cap w h hN2 hs (f1 (by omega)) k
  · exact l6Long_lam t l ps a n cap w hT h (hN.trans (len_one hf (by omega))) hs (f1 (by omega)) (f3 (by omega)) k
  · exact l6Long_rec t l ps a n cap w hT hR h (hN.trans (len_one hf (by omega))) hs (f1 (by omega)) (f2 k) (f3 (by omega)) (f4 k) k
  · exact l6Long_one t l ps a n cap w h (hN.trans (len_one hf (by omega))) hs k

set_option maxHeartbeats 6400000 in
theorem l6Text_any (t : Tm) : ∀ (l : Lt) (w : World), Md w t l → t.ok = true → t.wt ≤ 1048576 →
    Calls Tryz.prog 117 #[.agg #[.int .i64 t.kind, .string t.name, .string t.other, .int .i64 t.n, .int .i64 t.type.kind, .slice l.ta l.tn l.tc, .int .i64 t.res.kind, .slice l.ra l.rn l.rc, .slice l.aa l.an l.ac]] w fun e w' => e = .returned (.string t.text) ∧ Below w.heap.size w w' := by
  induction t using Tm.ind' with | h t ih => ?_
  intro l w h hok hl
  have IH := hide ih
  clear ih
  obtain ⟨h0, ht, hrr, hr⟩ := h.shape
  clear h
  have hn : l.an ≤ 1048576 := by
    have := Tm.length_le_wts t.args
    have h1 : l.an = t.args.length := hr.1
    have := t.wt_eq
    omega
  obtain ⟨hf, hao⟩ := Tm.ok_parts hok
  obtain ⟨f1, f2, f3, f4, f5, f6, f7, f8, f9⟩ := form_facts hf
  have hsum : sumS (t.args.map Tm.text) ≤ 268435456 := by
    have h1 := texts_le t.args hao
    have h2 := t.args_le_wt
    omega
  have HSUM := hide hsum
  replace hao := hide hao
  have HF := hide hf
  have F1 := hide f1
  have F2 := hide f2
  have F3 := hide f3
  have F4 := hide f4
  have F5 := hide f5
  have F6 := hide f6
  have F7 := hide f7
  have F8 := hide f8
  have F9 := hide f9
  have HT := hide ht
  have HRR := hide hrr
  have HTE := hide t.text_eq
  have HI0 := hide h0
  clear f1 f2 f3 f4 f5 f6 f7 f8 f9 hf hsum hok ht hrr h0
  obtain ⟨i0, hi, hz0, hz1, hz2⟩ := info_parts Tryz.infoStr
  go_enter Tryz.func117, Tryz.ntmps117
  go_wp2_with fail
  go_loopw [3, 4] (fun v i wr => ∃ j : Nat, j ≤ l.an ∧ i = .int .i64 j ∧ OwnS (w.heap.size + 1) wr v ((t.args.take j).map Tm.text) ∧ Blk wr w.heap.size 29 #[.int .i64 t.kind, .string t.name, .string t.other, .int .i64 t.n, .int .i64 t.type.kind, .slice l.ta l.tn l.tc, .int .i64 t.res.kind, .slice l.ra l.rn l.rc, .slice l.aa l.an l.ac] ∧ Below w.heap.size w wr) (fun _ i _ => l.an - (intOf i).toNat)
  case atStart => exact ⟨0, by omega, rfl, (by simpa using (OwnS.none_ (w.alloc (.cells #[.int .i64 t.kind, .string t.name, .string t.other, .int .i64 t.n, .int .i64 t.type.kind, .slice l.ta l.tn l.tc, .int .i64 t.res.kind, .slice l.ra l.rn l.rc, .slice l.aa l.an l.ac] 29)) (w.heap.size + 1) (by simp))), (Blk.new _ _ _).alloc _, (by repeat (first | exact Below.refl _ _ | assumption | refine Below.drew ?_ | refine below_drewN ?_ _ | refine Below.alloc ?_ (by first | omega | (simp; done) | (simp; omega)) _ | refine Below.setCell ?_ (by first | omega | (simp; done) | (simp; omega)) _))⟩
  case round =>
    obtain ⟨j, hj, rfl, hO, hB, hb⟩ := hrel
    have hsz := hb.size
    have hltB := hB.lt
    obtain ⟨v0, v1, v2, v3, v4, v5, v6, v7, hcell8⟩ := hB.nine
    by_cases hjn : j < l.an
    · have hjx : j < t.args.length := by rw [← hr.1]; exact hjn
      obtain ⟨b, off, l', ha, hlt, hc, hd⟩ := (hr.below hb).get j hjx
      obtain ⟨e0, e1, e2, e3, e4, e5, e6, e7, e8⟩ := hc.nine
      clear hc
      have hstep := hide (show (t.args.take (j + 1)).map Tm.text = (t.args.take j).map Tm.text ++ [t.args[j].text] by rw [take_snoc t.args j hjx, List.map_append]; rfl)
      obtain ⟨q, hqn⟩ : ∃ q, q = ((t.args.take j).map Tm.text).length := ⟨_, rfl⟩
      obtain ⟨cs, hcs⟩ : ∃ cs, cs = ((t.args.take j).map Tm.text).map Value.string := ⟨_, rfl⟩
      have hlen : q ≤ 1048576 := by rw [hqn, List.length_map, List.length_take]; omega
      unfold OwnS at hO
      rw [← hqn, ← hcs] at hO
      replace hqn := hide hqn
      replace hcs := hide hcs
      have hz1' : t.args[j].wt ≤ 1048576 := Tm.wt_arg (List.getElem_mem hjx) hl
      have hok1 := hide (List.all_eq_true.1 hao.out _ (List.getElem_mem hjx))
      rw [ha] at hcell8 ⊢
      go_wp2_with (first
        | (go_at_call 117; (with_reducible refine (IH.out _ (List.getElem_mem hjx) _ _ hd hok1.out hz1').mono ?_); rintro e w1 ⟨rfl, b1⟩; have s1 := b1.size)
        | (at_builtin; refine wpList_append_lies _ rfl _ _ 54 rfl (w.heap.size + 1) 9 i0 (.string ⟨#[]⟩) 1 16 Tryz.underlying54 hi hz0 hz1 hz2 rfl (by decide) _ _ _ rfl ((own_below hO b1).alloc _) ⟨w1.heap.size, 0, none⟩ 1 1 [.string t.args[j].text] rfl rfl (one_new w1 _ _) (one_cell _) (by decide) ?c3 ?c4 ?c5 _ rfl ?_))
      case c3 => unfold maxLen; omega
      case c4 => omega
      case c5 => simp; omega
      intro g cap' w2 hown hgrow hat hlt2
      go_wp2_with fail
      go_roundw
      case rel =>
        have hB2 : Blk w2 w.heap.size 29 #[.int .i64 t.kind, .string t.name, .string t.other, .int .i64 t.n, .int .i64 t.type.kind, .slice l.ta l.tn l.tc, .int .i64 t.res.kind, .slice l.ra l.rn l.rc, .slice l.aa l.an l.ac] := ((hB.under b1).alloc _).grown hgrow fun e => by have := (hO.lt _ e.symm).1; omega
        exact ⟨j + 1, by omega, by go_num, own_step hqn.out hcs.out hown hstep.out, (by rw [ha] at hB2; exact hB2), ((hb.trans (b1.mono hsz)).alloc (by omega) _).grown hgrow (by simp; omega) fun k hk => by have := (hO.lt k hk).1; omega⟩
      case measure => simp [intOf]; omega
    · have h4 : l.an = t.args.length := hr.1
      rw [List.take_of_length_le (by omega)] at hO
      obtain ⟨va, vc, rfl, hR⟩ := hO.read (fun x hx => by have := mem_le_sumS hx; have := HSUM.out; omega)
      have hps : (t.args.map Tm.text).length = l.an := by rw [List.length_map, h4]
      rw [hps] at hR ⊢
      obtain ⟨ps, hpse⟩ : ∃ ps, ps = t.args.map Tm.text := ⟨_, rfl⟩
      rw [← hpse] at hR hps
      replace HSUM : Hid (sumS ps ≤ 268435456) := by rw [hpse]; exact HSUM.out
      replace HTE : Hid (t.text = textBy t.kind t.name t.other t.n t.type t.res ps) := by rw [hpse]; exact HTE.out
      have hpl := hide (hps.trans h4)
      replace hps := hide hps
      have hnlen := hide h4
      clear hO h4 hpse hr
      have part1 : 0 < l.an → ∃ b off, va = some ⟨b, off, none⟩ ∧ b < wr.heap.size ∧ wr.cell? ⟨b, off, none⟩ = some (.string (part ps 0)) := fun h0 => by
        have hl0 : 0 < ps.length := by rw [hps.out]; exact h0
        obtain ⟨b, off, ha, hlt, e0⟩ := hR.get 0 hl0
        refine ⟨b, off, ha, hlt, ?_⟩
        rw [Nat.add_zero] at e0
        rw [e0]
        simp [part, List.getD_eq_getElem?_getD, List.getElem?_eq_getElem hl0]
      have size0 := hide (Nat.le_trans (part_le ps 0) HSUM.out)
      have size1 := hide (Nat.le_trans (parts_le ps) HSUM.out)
      replace part1 := hide part1
      have hAR := hide F9.out
      by_cases k1 : t.kind = 1
      · have g1 : (t.kind == 1) = true := beq_iff_eq.2 k1
        have hte := hide (show t.text = t.name by rw [HTE.out]; simp [textBy, k1])
        clear k1
        go_wp2_with fail
        go_ret
        exact ⟨ret_string (by rw [hte.out]), hb⟩
      have g1 : (t.kind == 1) = false := beq_eq_false_iff_ne.2 k1
      by_cases k2 : t.kind = 2
      · have g2 : (t.kind == 2) = true := beq_iff_eq.2 k2
        have hte := hide (show t.text = itoaS t.n by rw [HTE.out]; simp [textBy, k2])
        have hi2 : i64 t.n := HI0.out.2.1
        have C := hide (specFormatInt_any t.n wr hi2)
        clear k2 k1
        go_wp2_with (go_at_call 126; (with_reducible refine C.out.mono ?_); rintro e w1 ⟨rfl, b1⟩)
        go_ret
        exact ⟨ret_string (by rw [hte.out]), below_next hb b1⟩
      have g2 : (t.kind == 2) = false := beq_eq_false_iff_ne.2 k2
      by_cases k3 : t.kind = 3
      · have g3 : (t.kind == 3) = true := beq_iff_eq.2 k3
        have hn3 := F6.out k3
        have hte := hide (show t.text = ⟨#[35]⟩ ++ (⟨#[102, 116]⟩ : ByteArray).extract t.n.toNat (t.n + 1).toNat by rw [HTE.out]; simp [textBy, k3])
        clear k3 k2 k1
        rcases hn3 with hn3 | hn3
        · rw [hn3] at v3 hte
          go_wp2_with fail
          go_ret
          exact ⟨ret_string (by rw [hte.out]; rfl), hb⟩
        · rw [hn3] at v3 hte
          go_wp2_with fail
          go_ret
          exact ⟨ret_string (by rw [hte.out]; rfl), hb⟩
      have g3 : (t.kind == 3) = false := beq_eq_false_iff_ne.2 k3
      by_cases k4 : t.kind = 4
      · have g4 : (t.kind == 4) = true := beq_iff_eq.2 k4
        have hl12 := len_op HF.out k4
        rw [← hnlen.out] at hl12
        by_cases hl1 : l.an = 1
        · have hte := hide (show t.text = ⟨#[40, 33]⟩ ++ part ps 0 ++ ⟨#[41]⟩ by rw [HTE.out]; simp [textBy, k4, hps.out, hl1])
          obtain ⟨b, off, rfl, hlt, e0⟩ := part1.out (by omega)
          have hs0 := size0.out
          generalize part ps 0 = y at hte e0 hs0
          have hlc : ((l.an : Int) == 1) = true := by rw [hl1]; rfl
          clear k4 k3 k2 k1
          go_wp2_with fail
          go_ret
          exact ⟨ret_string (by rw [hte.out]), hb⟩
        · have hte := hide (show t.text = ⟨#[40]⟩ ++ part ps 0 ++ t.name ++ part ps 1 ++ ⟨#[41]⟩ by rw [HTE.out]; simp [textBy, k4, hps.out, hl1])
          obtain ⟨b, off, rfl, hlt, e0⟩ := part1.out (by omega)
          obtain ⟨b', off', ha', hlt', e1⟩ := hR.get 1 (by rw [hps.out]; omega)
          injection ha' with ha'
          injection ha' with q1 q2
          subst q1 q2
          have hp1 : ps[1]'(by rw [hps.out]; omega) = part ps 1 := by simp [part, List.getD_eq_getElem?_getD, List.getElem?_eq_getElem (show 1 < ps.length by rw [hps.out]; omega)]
          rw [hp1] at e1
          have hs0 := size1.out
          have hnm := F1.out (by omega)
          generalize part ps 0 = y at hte e0 hs0
          generalize part ps 1 = z at hte e1 hs0
          have hlc : ((l.an : Int) == 1) = false := by simp; omega
          have hl2 : l.an = 2 := by omega
          have hs1 : ¬ 9223372036854775807 < 1 + y.size := by omega
          have hs2 : ¬ 9223372036854775807 < 1 + y.size + t.name.size := by omega
          have hs3 : ¬ 9223372036854775807 < 1 + y.size + t.name.size + z.size := by omega
          have hs4 : ¬ 9223372036854775807 < 1 + y.size + t.name.size + z.size + 1 := by omega
          clear k4 k3 k2 k1
          go_wp2_with fail
          go_quiet (fail)
          go_wp2_with fail
          go_ret
          exact ⟨ret_string (by rw [hte.out]), below_drewN hb _⟩
      have g4 : (t.kind == 4) = false := beq_eq_false_iff_ne.2 k4
      by_cases k10 : t.kind = 10
      · have g10 : (t.kind == 10) = true := beq_iff_eq.2 k10
        have hte := hide (show t.text = ⟨#[60]⟩ ++ part ps 0 ++ ⟨#[62]⟩ by rw [HTE.out]; simp [textBy, k10])
        have hl1 : l.an = 1 := hnlen.out.trans (len_one HF.out (by omega))
        obtain ⟨b, off, rfl, hlt, e0⟩ := part1.out (by omega)
        have hs0 := size0.out
        generalize part ps 0 = y at hte e0 hs0
        clear k10 k4 k3 k2 k1
        go_wp2_with fail
        go_ret
        exact ⟨ret_string (by rw [hte.out]), hb⟩
      have g10 : (t.kind == 10) = false := beq_eq_false_iff_ne.2 k10
      by_cases k11 : t.kind = 11
      · have g11 : (t.kind == 11) = true := beq_iff_eq.2 k11
        have hte := hide (show t.text = ⟨#[126]⟩ ++ part ps 0 by rw [HTE.out]; simp [textBy, k11])
        have hl1 : l.an = 1 := hnlen.out.trans (len_one HF.out (by omega))
        obtain ⟨b, off, rfl, hlt, e0⟩ := part1.out (by omega)
        have hs0 := size0.out
        generalize part ps 0 = y at hte e0 hs0
        clear k11 k10 k4 k3 k2 k1
        go_wp2_with fail
        go_ret
        exact ⟨ret_string (by rw [hte.out]), hb⟩
      have g11 : (t.kind == 11) = false := beq_eq_false_iff_ne.2 k11
      have C := hide (fun (W : World) (hW : Below wr.heap.size wr W) => l6Long_all t l ps va l.an vc W HF.out ((HT.out.below hb).below hW) ((HRR.out.below hb).below hW) (hR.below hW) hpl.out (by have := hps.out; omega) (by have := HSUM.out; omega) k1 k2 k3 k4 k10 k11)
      have hte := hide HTE.out
      generalize textBy t.kind t.name t.other t.n t.type t.res ps = y at C hte
      clear k11 k10 k4 k3 k2 k1
      go_wp2_with (go_at_call 127; (with_reducible refine (C.out _ (Below.refl _ _)).mono ?_); rintro e w1 ⟨rfl, b1⟩)
      go_ret
      exact ⟨ret_string (by rw [hte.out]), below_next hb b1⟩
end Go.Proofs.YtklifieahcoljaaGreat

namespace Go.Proofs.YtklifieahcoljaaGreat
open Go.RowKit
set_option linter.unusedVariables false
set_option linter.unusedSimpArgs false

end Go.Proofs.YtklifieahcoljaaGreat

namespace Go.Proofs.YtklifieahcoljaaGreat
open Go.RowKit
set_option linter.unusedVariables false
set_option linter.unusedSimpArgs false

set_option maxHeartbeats 800000 in
theorem specDepthOf_any (t : Tm) : ∀ (l : Lt) (w : World), Md w t l → Tm.sizes t.args ≤ 1048576 →
    Calls Tryz.prog 125 #[.agg #[.int .i64 t.kind, .string t.name, .string t.other, .int .i64 t.n, .int .i64 t.type.kind, .slice l.ta l.tn l.tc, .int .i64 t.res.kind, .slice l.ra l.rn l.rc, .slice l.aa l.an l.ac]] w fun e w' => e = .returned (.int .i64 (t.depth : Int)) ∧ Below w.heap.size w w' := by
  induction t using Tm.ind' with | h t ih => ?_
  intro l w h hl
  have IH := hide ih
  clear ih
  obtain ⟨h0, ht, hrr, hr⟩ := h.shape
  clear ht hrr h
  have hn : l.an ≤ 1048576 := by
    have := Tm.length_le_sizes t.args
    have h1 : l.an = t.args.length := hr.1
    omega
  go_enter Tryz.func125, Tryz.ntmps125
  go_wp2_with fail
  go_loopw [3, 4] (fun s i wr => ∃ j : Nat, j ≤ l.an ∧ i = .int .i64 j ∧ (∃ q : Nat, q ≤ 1048577 ∧ s = .int .i64 (q : Int) ∧ Hid (q = Tm.depths (t.args.take j))) ∧ Blk wr w.heap.size 29 #[.int .i64 t.kind, .string t.name, .string t.other, .int .i64 t.n, .int .i64 t.type.kind, .slice l.ta l.tn l.tc, .int .i64 t.res.kind, .slice l.ra l.rn l.rc, .slice l.aa l.an l.ac] ∧ Below w.heap.size w wr) (fun _ i _ => l.an - (intOf i).toNat)
  case atStart => exact ⟨0, by omega, rfl, ⟨0, by omega, rfl, by simp [Hid, Tm.depths]⟩, Blk.new _ _ _, (by repeat (first | exact Below.refl _ _ | assumption | refine Below.drew ?_ | refine below_drewN ?_ _ | refine Below.alloc ?_ (by first | omega | (simp; done) | (simp; omega)) _ | refine Below.setCell ?_ (by first | omega | (simp; done) | (simp; omega)) _))⟩
  case round =>
    obtain ⟨j, hj, rfl, ⟨q, hq, rfl, Hq⟩, hB, hb⟩ := hrel
    have hsz := hb.size
    have hcell8 := (hB.nine).2.2.2.2.2.2.2.2
    by_cases hjn : j < l.an
    · have hjx : j < t.args.length := by rw [← hr.1]; exact hjn
      obtain ⟨b, off, l', ha, hlt, hc, hd⟩ := (hr.below hb).get j hjx
      obtain ⟨e0, e1, e2, e3, e4, e5, e6, e7, e8⟩ := hc.nine
      clear hc
      rw [ha] at hcell8 ⊢
      have hz : Tm.sizes t.args[j].args ≤ 1048576 ∧ t.args[j].depth ≤ 1048576 := by
        have h1 := Tm.sizes_take t.args j hjx
        have h2 := Tm.sizes_take_le t.args (j + 1)
        have h4 := Tm.size_eq t.args[j]
        have h5 := Tm.depth_le_size t.args[j]
        omega
      obtain ⟨hz1, hz2⟩ := hz
      go_wp2_with (first | (go_at_call 64; refine (l1Max_any _ _ _).mono ?_; rintro e w' ⟨rfl, rfl⟩) | (go_at_call 125; (with_reducible refine (IH.out _ (List.getElem_mem hjx) _ _ hd hz1).mono ?_); rintro e w' ⟨rfl, hb'⟩))
      go_roundw
      case rel =>
        refine ⟨j + 1, by omega, by go_num, ⟨max q t.args[j].depth, by omega, by go_num, ?_⟩, (by have hB2 := hB.under hb'; rw [ha] at hB2; exact hB2), hb.trans (by repeat (first | exact Below.refl _ _ | refine Below.drew ?_ | refine below_drewN ?_ _ | refine Below.alloc ?_ (by first | omega | (simp; done) | (simp; omega)) _ | refine Below.setCell ?_ (by first | omega | (simp; done) | (simp; omega)) _ | refine Below.trans ?_ (Below.mono hb' (by first | omega | (simp; done) | (simp; omega)))))⟩
        rw [Hq.out, Hid, Tm.depths_take t.args j hjx]
      case measure => simp [intOf]; omega
    · go_wp2
      go_ret
      refine ⟨ret_int ?_, hb⟩
      have h3 := Hq.out
      have h4 : l.an = t.args.length := hr.1
      rw [List.take_of_length_le (by omega)] at h3
      rw [Tm.depth_eq]
      simp only [h3]
      rfl
end Go.Proofs.YtklifieahcoljaaGreat

namespace Go.Proofs.YtklifieahcoljaaGreat
open Go.RowKit
set_option linter.unusedVariables false
set_option linter.unusedSimpArgs false

set_option maxHeartbeats 1600000 in
theorem l5Left_any (t : Tm) : ∀ (l : Lt) (left : Int) (w : World), Md w t l → 0 ≤ left → left ≤ 1048576 →
    Calls Tryz.prog 124 #[.agg #[.int .i64 t.kind, .string t.name, .string t.other, .int .i64 t.n, .int .i64 t.type.kind, .slice l.ta l.tn l.tc, .int .i64 t.res.kind, .slice l.ra l.rn l.rc, .slice l.aa l.an l.ac], .int .i64 left] w fun e w' => e = .returned (.int .i64 (lessN t.size left)) ∧ Below w.heap.size w w' := by
  induction t using Tm.ind' with | h t ih => ?_
  intro l left w h hl0 hl1
  have IH := hide ih
  clear ih
  obtain ⟨-, -, -, hr⟩ := h.shape
  clear h
  have hn : l.an ≤ 9223372036854775807 := by obtain ⟨_, h2, h3, _⟩ := hr; unfold maxLen at h3; omega
  by_cases hz : left = 0
  · subst hz
    go_enter Tryz.func124, Tryz.ntmps124
    go_wp2_with fail
    refine wp_loop_rounds 1 ?_
    rw [rounds_succ]
    go_wp2_with fail
    all_goals go_ret
    all_goals exact ⟨ret_int (lessN_neg (by have := Tm.size_pos t; omega)).symm, (by repeat (first | exact Below.refl _ _ | assumption | refine Below.drew ?_ | refine below_drewN ?_ _ | refine Below.alloc ?_ (by first | omega | (simp; done) | (simp; omega)) _ | refine Below.setCell ?_ (by first | omega | (simp; done) | (simp; omega)) _))⟩
  · go_enter Tryz.func124, Tryz.ntmps124
    go_wp2_with fail
    go_loopw [1, 5] (fun lf i wr => ∃ j : Nat, j ≤ l.an ∧ i = .int .i64 j ∧ (∃ s : Int, lf = .int .i64 s ∧ -1 ≤ s ∧ s ≤ left ∧ Hid (s = lessN (Tm.sizes (t.args.take j)) (left - 1))) ∧ Blk wr w.heap.size 29 #[.int .i64 t.kind, .string t.name, .string t.other, .int .i64 t.n, .int .i64 t.type.kind, .slice l.ta l.tn l.tc, .int .i64 t.res.kind, .slice l.ra l.rn l.rc, .slice l.aa l.an l.ac] ∧ Below w.heap.size w wr) (fun _ i _ => l.an - (intOf i).toNat)
    case atStart => exact ⟨0, by omega, rfl, ⟨_, rfl, by omega, by omega, by simp [Hid, Tm.sizes]; rw [lessN_zero (by omega)]⟩, Blk.new _ _ _, (by repeat (first | exact Below.refl _ _ | assumption | refine Below.drew ?_ | refine below_drewN ?_ _ | refine Below.alloc ?_ (by first | omega | (simp; done) | (simp; omega)) _ | refine Below.setCell ?_ (by first | omega | (simp; done) | (simp; omega)) _))⟩
    case round =>
      obtain ⟨j, hj, rfl, ⟨s, rfl, hs1, hs2, Hs⟩, hB, hb⟩ := hrel
      have hsz := hb.size
      obtain ⟨v0, v1, v2, v3, v4, v5, v6, v7, hcell8⟩ := hB.nine
      by_cases hjn : j < l.an
      · have hjx : j < t.args.length := by rw [← hr.1]; exact hjn
        by_cases hs0 : 0 ≤ s
        · obtain ⟨b, off, l', ha, hlt, hc, hd⟩ := (hr.below hb).get j hjx
          obtain ⟨e0, e1, e2, e3, e4, e5, e6, e7, e8⟩ := hc.nine
          clear hc
          rw [ha] at hcell8 ⊢
          go_wp2_with (go_at_call 124; (with_reducible refine (IH.out _ (List.getElem_mem _) _ _ _ hd hs0 (by omega)).mono ?_); rintro e w' ⟨rfl, hb'⟩)
          go_roundw
          case rel =>
            have h3 := Hs.out
            have h4 := lessN_bounds t.args[j].size hs0
            refine ⟨j + 1, by omega, by go_num, ⟨_, rfl, h4.1, by omega, ?_⟩, (by have hB2 := hB.under hb'; rw [ha] at hB2; exact hB2), hb.trans (by repeat (first | exact Below.refl _ _ | refine Below.drew ?_ | refine below_drewN ?_ _ | refine Below.alloc ?_ (by first | omega | (simp; done) | (simp; omega)) _ | refine Below.setCell ?_ (by first | omega | (simp; done) | (simp; omega)) _ | refine Below.trans ?_ (Below.mono hb' (by first | omega | (simp; done) | (simp; omega)))))⟩
            subst h3
            rw [Hid, lessN_more hs0, Tm.sizes_take t.args j hjx, Tm.size_eq]
          case measure => simp [intOf]; omega
        · go_wp2
          go_ret
          refine ⟨ret_int ?_, hb⟩
          have h3 := Hs.out
          have h5 := Tm.sizes_take_le t.args j
          subst h3
          rw [Tm.size_eq, lessN_eq_neg (by omega) (by omega)]
          exact (lessN_stop hl0 (a := Tm.sizes (t.args.take j)) (by omega) (by omega) (by omega)).symm
      · go_wp2
        all_goals go_ret
        all_goals
          refine ⟨ret_int ?_, hb⟩
          have h3 := Hs.out
          have h4 : l.an = t.args.length := hr.1
          rw [List.take_of_length_le (by omega), lessN_one] at h3
          rw [Tm.size_eq]
          exact h3

/-- A valid term of the language. -/
def Tm.valid (t : Tm) : Bool := decide (t.size ≤ 80) && (decide (t.depth ≤ 20) && t.ok)

set_option maxHeartbeats 800000 in
theorem specIsValidTerm_any (t : Tm) (l : Lt) (w : World) (h : Md w t l) (hw : t.wt ≤ 1048576) :
    Calls Tryz.prog 116 #[.agg #[.int .i64 t.kind, .string t.name, .string t.other, .int .i64 t.n, .int .i64 t.type.kind, .slice l.ta l.tn l.tc, .int .i64 t.res.kind, .slice l.ra l.rn l.rc, .slice l.aa l.an l.ac]] w fun e w' => e = .returned (.bool t.valid) ∧ Below w.heap.size w w' := by
  have hz := Nat.le_trans t.args_le_wt hw
  by_cases hs : t.size ≤ 80
  · have hp : 0 ≤ lessN t.size 80 := by rw [lessN_pos (by omega)]; omega
    by_cases hd : t.depth ≤ 20
    · have hv := hide (show t.valid = t.ok by simp [Tm.valid, hs, hd])
      go_enter Tryz.func116, Tryz.ntmps116
      go_wp2_with fail
      refine (l5Left_any t _ _ _ (h.below (by repeat (first | exact Below.refl _ _ | assumption | refine Below.drew ?_ | refine below_drewN ?_ _ | refine Below.alloc ?_ (by first | omega | (simp; done) | (simp; omega)) _ | refine Below.setCell ?_ (by first | omega | (simp; done) | (simp; omega)) _))) (by omega) (by omega)).mono ?_
      rintro e w1 ⟨rfl, b1⟩
      have B1 := (Blk.new w _ _).under b1
      obtain ⟨u0, u1, u2, u3, u4, u5, u6, u7, u8⟩ := B1.nine
      go_wp2_with fail
      refine (specDepthOf_any t _ _ (h.below (below_of_alloc b1)) hz).mono ?_
      rintro e w2 ⟨rfl, b2⟩
      have B2 := B1.under b2
      clear u0 u1 u2 u3 u4 u5 u6 u7 u8
      obtain ⟨u0, u1, u2, u3, u4, u5, u6, u7, u8⟩ := B2.nine
      go_wp2_with fail
      refine (specIsTerm_any t _ _ ((h.below (below_of_alloc b1)).below b2) hw).mono ?_
      rintro e w3 ⟨rfl, b3⟩
      go_wp2_with fail
      go_ret
      exact ⟨ret_bool hv.out.symm, below_next (below_next (below_of_alloc b1) b2) b3⟩
    · have hv := hide (show t.valid = false by simp [Tm.valid, hd])
      go_enter Tryz.func116, Tryz.ntmps116
      go_wp2_with fail
      refine (l5Left_any t _ _ _ (h.below (by repeat (first | exact Below.refl _ _ | assumption | refine Below.drew ?_ | refine below_drewN ?_ _ | refine Below.alloc ?_ (by first | omega | (simp; done) | (simp; omega)) _ | refine Below.setCell ?_ (by first | omega | (simp; done) | (simp; omega)) _))) (by omega) (by omega)).mono ?_
      rintro e w1 ⟨rfl, b1⟩
      have B1 := (Blk.new w _ _).under b1
      obtain ⟨u0, u1, u2, u3, u4, u5, u6, u7, u8⟩ := B1.nine
      go_wp2_with fail
      refine (specDepthOf_any t _ _ (h.below (below_of_alloc b1)) hz).mono ?_
      rintro e w2 ⟨rfl, b2⟩
      go_wp2_with fail
      go_ret
      exact ⟨ret_bool hv.out.symm, below_next (below_of_alloc b1) b2⟩
  · have hp : lessN t.size 80 < 0 := by rw [lessN_neg (by omega)]; omega
    have hv := hide (show t.valid = false by simp [Tm.valid, hs])
    go_enter Tryz.func116, Tryz.ntmps116
    go_wp2_with fail
    refine (l5Left_any t _ _ _ (h.below (by repeat (first | exact Below.refl _ _ | assumption | refine Below.drew ?_ | refine below_drewN ?_ _ | refine Below.alloc ?_ (by first | omega | (simp; done) | (simp; omega)) _ | refine Below.setCell ?_ (by first | omega | (simp; done) | (simp; omega)) _))) (by omega) (by omega)).mono ?_
    rintro e w1 ⟨rfl, b1⟩
    go_wp2_with fail
    go_ret
    exact ⟨ret_bool hv.out.symm, below_of_alloc b1⟩

end Go.Proofs.YtklifieahcoljaaGreat
