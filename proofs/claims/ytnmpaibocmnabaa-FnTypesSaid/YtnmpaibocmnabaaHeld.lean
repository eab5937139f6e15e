/-
  The walks of heldTypeS and heldType: a type whose nodes are numbered through is found so.
-/
import Derived.Test.YtnmpaibocmnabaaMarkW
import Derived.Test.YtnmpaibocmnabaaErase
namespace Go.Proofs.Ytnmpaibocmnabaa
open Go.RowKit
set_option maxRecDepth 100000
set_option linter.unusedVariables false
set_option linter.unusedSimpArgs false

theorem Ty.marks_get (xs : List Ty) (q : Int) (j : Nat) (h : j < xs.length) (h' : j < (Ty.marks q xs).length) : (Ty.marks q xs)[j] = xs[j].mark (q + Ty.sizes (xs.take j)) := by
  have e : xs = xs.take j ++ (xs[j] :: xs.drop (j + 1)) := by rw [← List.drop_eq_getElem_cons h, List.take_append_drop]
  have hl : (Ty.marks q (xs.take j)).length = j := by rw [Ty.marks_len, List.length_take]; omega
  have h2 : (Ty.marks q xs)[j]? = some (xs[j].mark (q + Ty.sizes (xs.take j))) := by
    conv => lhs; rw [e]
    rw [Ty.marks_append, List.getElem?_append_right (by omega), hl, Nat.sub_self]
    rfl
  rw [List.getElem?_eq_getElem h'] at h2
  exact Option.some.inj h2

abbrev HeldC (xs : List Ty) : Prop := ∀ (a : Option Addr) (n cap : Nat) (q : Int) (w : World), Rds w (Ty.marks q xs) a n cap → 0 ≤ q → q + Ty.sizes xs ≤ 1099511627776 →
  Calls Try.prog 53 #[.slice a n cap, .int .i64 q] w fun e w' => e = .returned (.int .i64 (q + Ty.sizes xs)) ∧ w = w'

set_option maxHeartbeats 800000 in
theorem heldTypeS_of (xs : List Ty) (ih : ∀ t ∈ xs, HeldC t.args) : HeldC xs := by
  intro a n cap q w hr hq0 hq1
  have IH := hide ih
  clear ih
  have hn : n ≤ 9223372036854775807 := by obtain ⟨_, h2, h3, _⟩ := hr; unfold maxLen at h3; omega
  have hx : Hid (n = xs.length) := by
    have := hr.1
    rw [Ty.marks_len] at this
    exact this
  go_enter Try.func53, Try.ntmps53
  go_wp2_with fail
  go_loopw [1, 5] (fun s i wr => ∃ j : Nat, j ≤ n ∧ i = .int .i64 j ∧ (∃ z : Int, s = .int .i64 z ∧ 0 ≤ z ∧ z ≤ 1099511627776 ∧ Hid (z = q + Ty.sizes (xs.take j))) ∧ w = wr) (fun _ i _ => n - (intOf i).toNat)
  case atStart => exact ⟨0, by omega, rfl, ⟨q, rfl, hq0, by omega, by simp [Hid, Ty.sizes]⟩, rfl⟩
  case round =>
    obtain ⟨j, hj, rfl, ⟨z, rfl, hz0, hz1, HZ⟩, rfl⟩ := hrel
    by_cases hjn : j < n
    · have hjx : j < xs.length := by rw [← hx.out]; exact hjn
      have hjm : j < (Ty.marks q xs).length := by rw [Ty.marks_len]; exact hjx
      have hbz : z + 1 + Ty.sizes xs[j].args ≤ 1099511627776 := by
        have h1 := Ty.sizes_take xs j hjx
        have h2 := Ty.sizes_take_le xs (j + 1)
        have h3 := HZ.out
        omega
      obtain ⟨b, off, c0, c1, rfl, hlt, e0, e1, hd⟩ := hr.get j hjm
      rw [Ty.marks_get xs q j hjx, ← HZ.out, Ty.mark_eq] at hd
      obtain ⟨xa, xn, xc, rfl, rfl, -, hA⟩ := hd.shape
      go_wp2_with (go_at_call 53; (with_reducible refine (IH.out _ (List.getElem_mem hjx) _ _ _ _ _ hA (by omega) hbz).mono ?_); rintro e w2 ⟨rfl, rfl⟩)
      go_roundw
      case rel =>
        have h1 := Ty.sizes_take xs j hjx
        refine ⟨j + 1, by omega, by go_num, ⟨_, rfl, by omega, by omega, ?_⟩, by trivial⟩
        have h3 := HZ.out
        unfold Hid
        omega
      case measure => simp [intOf]; omega
    · go_wp2
      go_ret
      have hx1 := hx.out
      have h3 := HZ.out
      rw [List.take_of_length_le (by omega)] at h3
      exact ⟨ret_int h3, rfl⟩

theorem heldTypeS_any (xs : List Ty) : HeldC xs := by
  have key : ∀ t : Ty, HeldC t.args := fun t => by
    induction t using Ty.ind with | h k ys ih => ?_
    exact heldTypeS_of ys ih
  exact key ⟨0, xs⟩


theorem Ty.erase_size : ∀ t : Ty, t.erase.size ≤ t.size := by
  intro t
  induction t using Ty.ind with | h k xs ih => ?_
  have hs : ∀ ys : List Ty, (∀ y ∈ ys, y.erase.size ≤ y.size) → Ty.sizes (Ty.erases ys) ≤ Ty.sizes ys := by
    intro ys
    induction ys with
    | nil => intro _; exact Nat.le_refl _
    | cons y ys ihy =>
      intro h
      have h1 := h y (by simp)
      have h2 := ihy fun z hz => h z (by simp [hz])
      simp only [Ty.erases, Ty.sizes]
      omega
  have h0 := hs xs ih
  rw [Ty.erase]
  split
  · rename_i hc
    match xs, hc with
    | [x], _ =>
      have := ih x (by simp)
      show x.erase.size ≤ _
      have h2 := Ty.size_eq ⟨k, [x]⟩
      simp only [Ty.sizes] at h2
      omega
  · rw [Ty.size_eq, Ty.size_eq]
    try simp only
    omega
theorem Ty.erase_sizes (t : Ty) : Ty.sizes t.erase.args ≤ Ty.sizes t.args := by
  have h1 := t.erase_size
  rw [Ty.size_eq, Ty.size_eq t] at h1
  omega
end Go.Proofs.Ytnmpaibocmnabaa
