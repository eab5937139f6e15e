/-
  Plain law: a string cut at every place of a byte; the library's pieces are these.
-/
import Derived.Lib.Split
import Derived.Lib.CountLaws
import Derived.Lib.IndexMore
namespace Go.Proofs.YtcbgapncmjjmeaaDoor
open Go.Lib
set_option linter.unusedVariables false

/-- The pieces of l between the places of c. -/
def cut (c : UInt8) : List UInt8 → List (List UInt8)
  | [] => [[]]
  | b :: r => if b = c then [] :: cut c r else match cut c r with
    | [] => [[b]]
    | p :: ps => (b :: p) :: ps
theorem cut_ne (c : UInt8) (l : List UInt8) : cut c l ≠ [] := by
  cases l with
  | nil => simp [cut]
  | cons b r =>
    rw [cut]
    split
    · simp
    · split <;> simp
theorem cut_miss (c : UInt8) : ∀ (l : List UInt8), c ∉ l → cut c l = [l]
  | [], _ => rfl
  | b :: r, h => by
    have h1 : ¬ b = c := fun e => h (by simp [e])
    rw [cut, if_neg h1, cut_miss c r fun e => h (by simp [e])]
theorem cut_hit (c : UInt8) : ∀ (p r : List UInt8), c ∉ p → cut c (p ++ c :: r) = p :: cut c r
  | [], r, _ => by simp [cut]
  | b :: p, r, h => by
    have h1 : ¬ b = c := fun e => h (by simp [e])
    rw [List.cons_append, cut, if_neg h1, cut_hit c p r fun e => h (by simp [e])]
theorem cut_at (c : UInt8) (l : List UInt8) (i : Nat) (hi : l[i]? = some c) (h : c ∉ l.take i) : cut c l = l.take i :: cut c (l.drop (i + 1)) := by
  obtain ⟨hlt, he⟩ := List.getElem?_eq_some_iff.1 hi
  have e : l = l.take i ++ c :: l.drop (i + 1) := by
    rw [← he, List.getElem_cons_drop, List.take_append_drop]
  conv => lhs; rw [e]
  exact cut_hit c _ _ h
theorem cut_len (c : UInt8) : ∀ (l : List UInt8), (cut c l).length ≤ l.length + 1
  | [] => by simp [cut]
  | b :: r => by
    have := cut_len c r
    rw [cut]
    split
    · simp; omega
    · split
      · simp
      · rename_i h
        rw [h] at this
        simp at this ⊢
        omega
theorem cut_mem (c : UInt8) : ∀ (l : List UInt8), ∀ p ∈ cut c l, c ∉ p ∧ p.length ≤ l.length
  | [], p, h => by simp [cut] at h; subst h; simp
  | b :: r, p, h => by
    rw [cut] at h
    split at h
    · rcases List.mem_cons.1 h with rfl | h
      · simp
      · have := cut_mem c r p h
        exact ⟨this.1, by simp; omega⟩
    · rename_i hb
      split at h
      · simp at h
        subst h
        exact ⟨by simpa using fun e => hb e.symm, by simp⟩
      · rename_i q qs hq
        rcases List.mem_cons.1 h with rfl | h
        · have := cut_mem c r q (by rw [hq]; simp)
          refine ⟨fun e => ?_, by simp; omega⟩
          rcases List.mem_cons.1 e with e | e
          · exact hb e.symm
          · exact this.1 e
        · have := cut_mem c r p (by rw [hq]; simp [h])
          exact ⟨this.1, by simp; omega⟩

theorem occ_one (l : List UInt8) (c : UInt8) (i : Nat) : occAt l [c] i = true ↔ l[i]? = some c := by
  constructor
  · exact fun h => occAt_head rfl h
  · intro h
    obtain ⟨hlt, he⟩ := List.getElem?_eq_some_iff.1 h
    rw [occAt_iff_take l [c] i (by simp; omega)]
    rw [List.drop_eq_getElem_cons hlt, he]
    simp
theorem index_one (l : List UInt8) (c : UInt8) : (index l [c] = -1 ∧ c ∉ l) ∨ ∃ i : Nat, index l [c] = i ∧ l[i]? = some c ∧ c ∉ l.take i := by
  rcases index_spec l [c] with ⟨h1, h2⟩ | ⟨i, h1, h2, h3, h4⟩
  · refine .inl ⟨h1, fun hm => ?_⟩
    obtain ⟨i, hi, he⟩ := List.getElem_of_mem hm
    have := h2 i (by omega)
    rw [(occ_one l c i).2 (by rw [List.getElem?_eq_getElem hi, he])] at this
    cases this
  · refine .inr ⟨i, h1, (occ_one l c i).1 h3, fun hm => ?_⟩
    obtain ⟨j, hj, he⟩ := List.getElem_of_mem hm
    simp only [List.length_take] at hj
    rw [List.getElem_take] at he
    have := h4 j (by omega)
    rw [(occ_one l c j).2 (by rw [List.getElem?_eq_getElem (by omega), he])] at this
    cases this
theorem split_cut (c : UInt8) : ∀ (n : Nat) (l : List UInt8), l.length ≤ n → splitK [c] 0 (count l [c]) l = cut c l ∧ count l [c] + 1 = (cut c l).length := by
  intro n
  induction n with
  | zero =>
    intro l hl
    have : l = [] := List.length_eq_zero_iff.1 (by omega)
    subst this
    have h0 : count [] [c] = 0 := count_miss (by simp [index])
    rw [h0]
    simp [splitK, cut]
  | succ n ih =>
    intro l hl
    rcases index_one l c with ⟨h1, h2⟩ | ⟨i, h1, h2, h3⟩
    · rw [count_miss h1, cut_miss c l h2]
      simp [splitK]
    · obtain ⟨hlt, he⟩ := List.getElem?_eq_some_iff.1 h2
      have := ih (l.drop (i + 1)) (by rw [List.length_drop]; omega)
      rw [count_hit (by simp) h1, cut_at c l i h2 h3]
      have e : [c].length = 1 := rfl
      rw [e, Nat.add_comm 1]
      rw [splitK, h1]
      have hne : ((i : Int) == -1) = false := by simp
      rw [hne]
      simp only [Bool.false_eq_true, if_false, Int.toNat_natCast, Nat.add_zero, List.length_cons, List.length_nil, Nat.zero_add]
      rw [this.1]
      exact ⟨rfl, by omega⟩
/-- The library's pieces at a separator of one byte. -/
theorem splitB_cut (s : ByteArray) (c : UInt8) : (splitB ⟨#[c]⟩ 0 (countB s ⟨#[c]⟩) s).map (·.data.toList) = cut c s.data.toList ∧ countB s ⟨#[c]⟩ + 1 = (cut c s.data.toList).length := by
  have h := split_cut c _ s.data.toList (Nat.le_refl _)
  rw [splitB_data]
  exact h
end Go.Proofs.YtcbgapncmjjmeaaDoor
