/-
  The walk of the reference's SplitByte, and the program's over the library's Split.
-/
import Derived.Test.YtcbgapncmjjmeaaDoorOwnS
import Derived.Test.YtcbgapncmjjmeaaDoorCut
import Derived.Test.YtcbgapncmjjmeaaDoorShelfS
import Derived.WideShapes
import Derived.Laws.Strings
namespace Go.Proofs.YtcbgapncmjjmeaaDoor
open Go.RowKit
set_option maxRecDepth 100000
set_option linter.unusedVariables false
set_option linter.unusedSimpArgs false

/-- The pieces, as byte strings. -/
def pieces (s : ByteArray) (c : UInt8) : List ByteArray := (cut c s.data.toList).map fun l => ⟨l.toArray⟩
theorem pieces_len (s : ByteArray) (c : UInt8) : (pieces s c).length ≤ s.size + 1 := by
  rw [pieces, List.length_map]
  exact cut_len c _
theorem pieces_size (s : ByteArray) (c : UInt8) : ∀ x ∈ pieces s c, x.size ≤ s.size := by
  intro x hx
  obtain ⟨l, hl, rfl⟩ := List.mem_map.1 hx
  have h1 := (cut_mem c _ l hl).2
  have h2 : s.data.toList.length = s.size := rfl
  show l.toArray.size ≤ s.size
  rw [List.size_toArray]
  omega
theorem lib_pieces (s : ByteArray) (c : UInt8) : Lib.splitB ⟨#[c]⟩ 0 (Lib.countB s ⟨#[c]⟩) s = pieces s c ∧ Lib.countB s ⟨#[c]⟩ + 1 = (pieces s c).length := by
  have h := splitB_cut s c
  refine ⟨?_, by rw [pieces, List.length_map]; exact h.2⟩
  rw [pieces, ← h.1, List.map_map]
  conv => lhs; rw [← List.map_id (Lib.splitB ⟨#[c]⟩ 0 (Lib.countB s ⟨#[c]⟩) s)]
  refine List.map_congr_left fun x _ => ?_
  rfl
/-- How far the cutting has come: the pieces behind, the rest ahead from 'f', no c between f and i. -/
def Cutting (s : ByteArray) (c : UInt8) (xs : List ByteArray) (f i : Nat) : Prop :=
  (f ≤ i ∧ i ≤ s.size ∧ xs.map (·.data.toList) ++ cut c (s.data.toList.drop f) = cut c s.data.toList ∧ c ∉ (s.data.toList.drop f).take (i - f)) ∨ (i = s.size + 1 ∧ xs = pieces s c)
theorem Cutting.len {s : ByteArray} {c : UInt8} {xs : List ByteArray} {f i : Nat} (h : Cutting s c xs f i) : xs.length ≤ s.size + 1 := by
  rcases h with ⟨_, _, h, _⟩ | ⟨_, rfl⟩
  · have h1 := congrArg List.length h
    have h2 := cut_len c s.data.toList
    have h3 : s.data.toList.length = s.size := rfl
    simp at h1
    omega
  · exact pieces_len s c
theorem Cutting.zero (s : ByteArray) (c : UInt8) : Cutting s c [] 0 0 := .inl ⟨Nat.le_refl _, Nat.zero_le _, by simp, by simp⟩
/-- The piece from f to i. -/
theorem ext_list (s : ByteArray) (f i : Nat) (hf : f ≤ i) : (s.extract f i).data.toList = (s.data.toList.drop f).take (i - f) := by
  rw [ByteArray.data_extract, Array.toList_extract, List.extract]
theorem Cutting.over {s : ByteArray} {c : UInt8} {xs : List ByteArray} {f i : Nat} (h : Cutting s c xs f i) (hi : i < s.size) (hne : s[i] ≠ c) : Cutting s c xs f (i + 1) := by
  rcases h with ⟨h1, h2, h3, h4⟩ | ⟨h1, _⟩
  · refine .inl ⟨by omega, hi, h3, fun hm => h4 ?_⟩
    obtain ⟨j, hj, he⟩ := List.getElem_of_mem hm
    have hl : s.data.toList.length = s.size := rfl
    simp only [List.length_take, List.length_drop] at hj
    rw [List.getElem_take, List.getElem_drop] at he
    by_cases hjf : j < i - f
    · exact List.mem_of_getElem? (i := j) (by rw [List.getElem?_take_of_lt hjf, List.getElem?_drop, List.getElem?_eq_getElem (by omega), he])
    · exfalso
      apply hne
      have : f + j = i := by omega
      rw [← he]
      have e : s[i] = s.data.toList[i] := rfl
      rw [e]
      congr 1
      omega
  · omega
theorem Cutting.next {s : ByteArray} {c : UInt8} {xs : List ByteArray} {f i : Nat} (h : Cutting s c xs f i) (hi : i < s.size) (he : s[i] = c) : Cutting s c (xs ++ [s.extract f i]) (i + 1) (i + 1) := by
  rcases h with ⟨h1, h2, h3, h4⟩ | ⟨h1, _⟩
  · refine .inl ⟨Nat.le_refl _, hi, ?_, by simp⟩
    have hl : s.data.toList.length = s.size := rfl
    have hg : (s.data.toList.drop f)[i - f]? = some c := by
      rw [List.getElem?_drop, List.getElem?_eq_getElem (by omega), ← he]
      congr 1
      have e : s[i] = s.data.toList[i] := rfl
      rw [e]
      congr 1
      omega
    rw [← h3, cut_at c _ (i - f) hg h4, List.drop_drop, List.map_append]
    simp only [List.map_cons, List.map_nil, List.append_assoc, List.singleton_append]
    rw [ext_list s f i h1]
    congr 4
    omega
  · omega
theorem Cutting.last {s : ByteArray} {c : UInt8} {xs : List ByteArray} {f : Nat} (h : Cutting s c xs f s.size) : Cutting s c (xs ++ [s.extract f s.size]) (s.size + 1) (s.size + 1) := by
  rcases h with ⟨h1, h2, h3, h4⟩ | ⟨h1, _⟩
  · refine .inr ⟨rfl, ?_⟩
    have hl : s.data.toList.length = s.size := rfl
    have ht : (s.data.toList.drop f).take (s.size - f) = s.data.toList.drop f := List.take_of_length_le (by rw [List.length_drop]; omega)
    rw [ht] at h4
    rw [cut_miss c _ h4] at h3
    rw [pieces, ← h3, List.map_append, List.map_map]
    have e1 : xs = xs.map ((fun l => (⟨l.toArray⟩ : ByteArray)) ∘ fun x => x.data.toList) := by
      conv => lhs; rw [← List.map_id xs]
      exact List.map_congr_left fun x _ => rfl
    rw [← e1]
    congr 1
    simp only [List.map_cons, List.map_nil]
    congr 1
    have e2 := ext_list s f s.size h1
    rw [ht] at e2
    rw [← e2]
  · omega
theorem Cutting.end_ {s : ByteArray} {c : UInt8} {xs : List ByteArray} {f : Nat} (h : Cutting s c xs f (s.size + 1)) : xs = pieces s c := by
  rcases h with ⟨_, h, _⟩ | ⟨_, h⟩
  · omega
  · exact h
theorem Cutting.le {s : ByteArray} {c : UInt8} {xs : List ByteArray} {f i : Nat} (h : Cutting s c xs f i) (hi : i ≤ s.size) : f ≤ i := by
  rcases h with ⟨h, _⟩ | ⟨h, _⟩
  · exact h
  · omega

set_option maxHeartbeats 3200000 in
theorem specSplit_any (s : ByteArray) (c : UInt8) (w : World) (hs : s.size ≤ 1048576) :
    Calls Tryd.prog 22 #[.string s, .int .u8 (c.toNat : Int)] w (GivesS w (pieces s c)) := by
  obtain ⟨i0, hi, hz0, hz1, hz2⟩ := info_parts Tryd.infoStr
  go_enter Tryd.func22, Tryd.ntmps22
  go_wp2_with fail
  go_loopw [5, 6, 7] (fun v f i wr => ∃ k : Nat, k ≤ s.size + 1 ∧ i = .int .i64 k ∧ (∃ (g : Nat) (xs : List ByteArray), f = .int .i64 g ∧ Hid (Cutting s c xs g k) ∧ OwnS w.heap.size wr v xs) ∧ Below w.heap.size w wr) (fun _ _ i _ => s.size + 2 - (intOf i).toNat)
  case atStart => exact ⟨0, by omega, rfl, ⟨0, [], rfl, Cutting.zero s c, OwnS.none_ w _ (Nat.le_refl _)⟩, below_new _ _⟩
  case round =>
    obtain ⟨k, hk, rfl, ⟨g, xs, rfl, HC, hO⟩, hbl⟩ := hrel
    have hsz := hbl.size
    by_cases hks : k ≤ s.size
    · have hgk := HC.out.le hks
      have hxl := HC.out.len
      obtain ⟨q, hqn⟩ : ∃ q, q = xs.length := ⟨_, rfl⟩
      obtain ⟨cs, hcs⟩ : ∃ cs, cs = xs.map Value.string := ⟨_, rfl⟩
      by_cases hke : k = s.size
      · subst hke
        unfold OwnS at hO
        rw [← hqn, ← hcs] at hO
        rw [← hqn] at hxl
        replace hqn := hide hqn
        replace hcs := hide hcs
        go_wp2_with (at_builtin; refine wpList_append_lies _ rfl _ _ 27 rfl w.heap.size 9 i0 (.string ⟨#[]⟩) 1 16 Tryd.underlying27 hi hz0 hz1 hz2 rfl (by decide) _ _ _ rfl (hO.alloc _) ⟨wr.heap.size, 0, none⟩ 1 1 [.string (s.extract g s.size)] rfl rfl (one_new wr _ _) (one_cell _) (by decide) ?c3 ?c4 ?c5 _ rfl ?_)
        case c3 => unfold maxLen; omega
        case c4 => omega
        case c5 => simp; omega
        intro g' cap' w1 hown hgrow hat hlt
        go_wp2_with fail
        go_roundw
        case rel =>
          exact ⟨s.size + 1, by omega, by go_num, ⟨s.size + 1, _, by go_num, HC.out.last, own_step hqn.out hcs.out hown rfl⟩, (hbl.alloc hsz _).grown hgrow (by simp; omega) fun k hk => (hO.lt k hk).1⟩
        case measure => simp [intOf]
      · have hkl : k < s.size := by omega
        by_cases hc : s[k] = c
        · have hcb : ((s[k].toNat : Int) == (c.toNat : Int)) = true := by rw [hc]; simp
          have hst := hide (HC.out.next hkl hc)
          unfold OwnS at hO
          rw [← hqn, ← hcs] at hO
          rw [← hqn] at hxl
          replace hqn := hide hqn
          replace hcs := hide hcs
          replace hc := hide hc
          go_wp2_with (at_builtin; refine wpList_append_lies _ rfl _ _ 27 rfl w.heap.size 9 i0 (.string ⟨#[]⟩) 1 16 Tryd.underlying27 hi hz0 hz1 hz2 rfl (by decide) _ _ _ rfl (hO.alloc _) ⟨wr.heap.size, 0, none⟩ 1 1 [.string (s.extract g k)] rfl rfl (one_new wr _ _) (one_cell _) (by decide) ?c3 ?c4 ?c5 _ rfl ?_)
          case c3 => unfold maxLen; omega
          case c4 => omega
          case c5 => simp; omega
          intro g' cap' w1 hown hgrow hat hlt
          go_wp2_with fail
          go_roundw
          case rel =>
            exact ⟨k + 1, by omega, by go_num, ⟨k + 1, _, by go_num, hst, own_step hqn.out hcs.out hown rfl⟩, (hbl.alloc hsz _).grown hgrow (by simp; omega) fun k hk => (hO.lt k hk).1⟩
          case measure => simp [intOf]; omega
        · have hcb : ((s[k].toNat : Int) == (c.toNat : Int)) = false := by
            rw [beq_eq_false_iff_ne]
            intro e
            exact hc (UInt8.toNat_inj.1 (by omega))
          have hst := hide (HC.out.over hkl hc)
          clear hqn hcs
          replace hc := hide hc
          go_wp2_with fail
          go_roundw
          case rel => exact ⟨k + 1, by omega, by go_num, ⟨g, xs, rfl, hst, hO⟩, hbl⟩
          case measure => simp [intOf]; omega
    · obtain rfl : k = s.size + 1 := by omega
      have hp := HC.out.end_
      go_wp2_with fail
      go_ret
      exact ⟨_, rfl, hp ▸ hO, hbl⟩
theorem one_text {P : Program} (w : World) (src dst e : TypeId) (hs : P.underlying src = some (.slice e)) (he : P.underlying e = some (.int .u8)) (hd : P.underlying dst = some .string) (c : UInt8) :
    Sem.run P (convert src dst (.slice (some ⟨w.heap.size, 0, none⟩) 1 1)) (w.alloc (.cells #[.int .u8 (c.toNat : Int)] e)) = .ok (.string ⟨#[c]⟩) (w.alloc (.cells #[.int .u8 (c.toNat : Int)] e)) := by
  have h := run_convert_bytes_back (P := P) (w.alloc (.cells #[.int .u8 (c.toNat : Int)] e)) src dst e ⟨w.heap.size, 0, none⟩ 1 [c] hs he hd (fun j hj => by
    have : j = 0 := by simpa using hj
    subst this
    have hc := (Blk.new w e #[.int .u8 (c.toNat : Int)]).cell 0
    simp only [Addr.add_lit, Nat.add_zero, List.getElem_cons_zero]
    rw [hc]
    simp)
  exact h
/-- The library's own number lies. -/
def MaxInt (w : World) : Prop := ∃ m, w.cell? ⟨3, 0, none⟩ = some (.int .i64 m)
theorem MaxInt.below {w w' : World} (h : MaxInt w) (hb : Below w.heap.size w w') : MaxInt w' := let ⟨m, e⟩ := h; ⟨m, (hb.cell (World.block_lt_of_cell? _ _ e)).trans e⟩
theorem libSplit_any (s : ByteArray) (c : UInt8) (w : World) (hs : s.size ≤ 1048576) (hm : MaxInt w) :
    Calls Tryd.prog 54 #[.string s, .string ⟨#[c]⟩] w (GivesS w (pieces s c)) := by
  obtain ⟨m, hm⟩ := hm
  have hp := lib_pieces s c
  have hl := pieces_len s c
  refine (Tryd.strings_Split s ⟨#[c]⟩ m w (by omega) hm (by simp [ByteArray.size])).mono fun e w' ⟨he, hw⟩ => ?_
  rw [hp.1] at hw
  rw [hp.2] at he
  subst hw
  refine ⟨_, he, ⟨by simp, .inr ⟨w.heap.size, (pieces s c).length, _, rfl, Nat.le_refl _, heap_alloc_new w _, Nat.le_refl _, by unfold maxLen; omega, by simp, by simp; exact List.take_of_length_le (by simp)⟩⟩, below_new _ _⟩
theorem implSplit_any (s : ByteArray) (c : UInt8) (w : World) (hs : s.size ≤ 1048576) (hm : MaxInt w) :
    Calls Tryd.prog 23 #[.string s, .int .u8 (c.toNat : Int)] w (GivesS w (pieces s c)) := by
  have hcv := one_text (P := Tryd.prog) w 35 9 5 Tryd.underlying35 Tryd.underlying5 Tryd.underlying9 c
  have C := hide (fun W (hW : Below w.heap.size w W) => libSplit_any s c W hs (hm.below hW))
  have hb := below_new w (.cells #[.int .u8 (c.toNat : Int)] 5)
  go_enter Tryd.func23, Tryd.ntmps23
  go_wp2_with (go_at_call 54; (with_reducible refine (C.out _ hb).mono ?_); rintro e w1 ⟨v, rfl, hO, b1⟩)
  go_ret
  exact ⟨_, rfl, ⟨hO.1, by
    rcases hO.2 with hn | ⟨g, cap', cur, h1, h2, r⟩
    · exact .inl hn
    · exact .inr ⟨g, cap', cur, h1, by simp at h2; omega, r⟩⟩, below_next hb b1⟩
end Go.Proofs.YtcbgapncmjjmeaaDoor
