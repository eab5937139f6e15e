/-
  Plain functions on lists of names, and the free names of a term.
-/
import Derived.Test.YtcbgapncmjjmeaaDoorPlain
import Derived.Test.YtcbgapncmjjmeaaDoorTm
namespace Go.Proofs.YtcbgapncmjjmeaaDoor
set_option maxRecDepth 100000
set_option linter.unusedVariables false
set_option linter.unusedSimpArgs false

theorem toList_inj {a b : ByteArray} (h : (a.toList == b.toList) = true) : a.toList = b.toList := by simpa using h

/-- s is among the names. -/
def hasN (xs : List ByteArray) (s : ByteArray) : Bool := xs.any fun x => s.toList == x.toList
/-- One name more, unless it is there. -/
def addN (xs : List ByteArray) (s : ByteArray) : List ByteArray := if hasN xs s then xs else xs ++ [s]
def uniteN (a b : List ByteArray) : List ByteArray := (a ++ b).foldl addN []
def withoutN (xs : List ByteArray) (s : ByteArray) : List ByteArray := xs.filter fun x => !(x.toList == s.toList)
theorem fIdx_has (xs : List ByteArray) (s : ByteArray) : decide (fIdx (fun x => s.toList == x.toList) xs < 0) = !hasN xs s := by
  have h := fIdx_ge (fun x => s.toList == x.toList) xs
  rw [hasN, ← h, Bool.eq_iff_iff]
  simp
theorem foldl_addN_len (b : List ByteArray) : ∀ a : List ByteArray, a.length ≤ (b.foldl addN a).length ∧ (b.foldl addN a).length ≤ a.length + b.length := by
  induction b with
  | nil => intro a; simp
  | cons x xs ih =>
    intro a
    have h := ih (addN a x)
    have h1 : a.length ≤ (addN a x).length ∧ (addN a x).length ≤ a.length + 1 := by
      unfold addN
      split <;> simp
    simp only [List.foldl_cons, List.length_cons]
    omega
theorem uniteN_len (a b : List ByteArray) : (uniteN a b).length ≤ a.length + b.length := by
  have := (foldl_addN_len (a ++ b) []).2
  simpa [uniteN] using this
theorem foldl_addN_mem (b : List ByteArray) : ∀ a : List ByteArray, ∀ x ∈ b.foldl addN a, x ∈ a ∨ x ∈ b := by
  induction b with
  | nil => intro a x hx; exact .inl hx
  | cons y ys ih =>
    intro a x hx
    rcases ih (addN a y) x hx with h | h
    · unfold addN at h
      split at h
      · exact .inl h
      · rcases List.mem_append.1 h with h | h
        · exact .inl h
        · exact .inr (by simp at h; simp [h])
    · exact .inr (by simp [h])
theorem uniteN_mem {a b : List ByteArray} {x : ByteArray} (h : x ∈ uniteN a b) : x ∈ a ∨ x ∈ b := by
  rcases foldl_addN_mem _ _ x h with h | h
  · cases h
  · exact List.mem_append.1 h
theorem withoutN_take (xs : List ByteArray) (s : ByteArray) (k : Nat) (h : k < xs.length) : withoutN (xs.take (k + 1)) s = withoutN (xs.take k) s ++ (if xs[k].toList == s.toList then [] else [xs[k]]) := by
  rw [take_snoc xs k h, withoutN, List.filter_append]
  congr 1
  cases hq : (xs[k].toList == s.toList) <;> simp [hq]
theorem foldl_take (xs : List ByteArray) (a : List ByteArray) (k : Nat) (h : k < xs.length) : (xs.take (k + 1)).foldl addN a = addN ((xs.take k).foldl addN a) xs[k] := by
  rw [take_snoc xs k h, List.foldl_append]
  rfl

/-- The names that a node binds, and in which part. -/
def boundN (t : Tm) : List ByteArray × Int :=
  if t.kind == 6 && t.args.length == 1 then ([t.name], 0) else if t.kind == 8 && t.args.length == 2 then ([t.name], 1) else if t.kind == 9 && t.args.length == 1 then ([t.name, t.other], 0) else ([], -1)
mutual
/-- The free names. -/
def Tm.free : Tm → List ByteArray
  | ⟨k, nm, ot, n, ty, re, xs⟩ => if k == 1 then [nm] else Tm.frees (boundN ⟨k, nm, ot, n, ty, re, xs⟩) xs 0 []
def Tm.frees (b : List ByteArray × Int) : List Tm → Nat → List ByteArray → List ByteArray
  | [], _, out => out
  | t :: ts, i, out => Tm.frees b ts (i + 1) (uniteN out (if (i : Int) == b.2 then t.free.filter (fun s => !hasN b.1 s) else t.free))
end
theorem Tm.free_eq (t : Tm) : t.free = if t.kind == 1 then [t.name] else Tm.frees (boundN t) t.args 0 [] := by cases t; rw [Tm.free]
theorem Tm.frees_append (b : List ByteArray × Int) (xs ys : List Tm) : ∀ i out, Tm.frees b (xs ++ ys) i out = Tm.frees b ys (i + xs.length) (Tm.frees b xs i out) := by
  induction xs with
  | nil => intro i out; rfl
  | cons x xs ih =>
    intro i out
    rw [List.cons_append, Tm.frees, Tm.frees, ih]
    congr 1
    simp only [List.length_cons]
    omega
/-- What a part adds. -/
def partN (b : List ByteArray × Int) (t : Tm) (i : Nat) : List ByteArray := if (i : Int) == b.2 then t.free.filter (fun s => !hasN b.1 s) else t.free
theorem Tm.frees_take (b : List ByteArray × Int) (xs : List Tm) (k : Nat) (h : k < xs.length) : Tm.frees b (xs.take (k + 1)) 0 [] = uniteN (Tm.frees b (xs.take k) 0 []) (partN b xs[k] k) := by
  rw [take_snoc xs k h, Tm.frees_append]
  have : (xs.take k).length = k := by simp; omega
  rw [Tm.frees, Tm.frees, this, Nat.zero_add]
  rfl
theorem partN_len (b : List ByteArray × Int) (t : Tm) (i : Nat) : (partN b t i).length ≤ t.free.length := by
  unfold partN
  split
  · exact List.length_filter_le _ _
  · exact Nat.le_refl _
theorem Tm.frees_len_of (b : List ByteArray × Int) (xs : List Tm) (h : ∀ t ∈ xs, t.free.length ≤ t.size) : ∀ i out, (Tm.frees b xs i out).length ≤ out.length + Tm.sizes xs := by
  induction xs with
  | nil => intro i out; rw [Tm.frees]; omega
  | cons x xs ih =>
    intro i out
    rw [Tm.frees]
    have h1 := h x (by simp)
    have h2 := ih (fun t ht => h t (by simp [ht])) (i + 1) (uniteN out (partN b x i))
    have h3 := uniteN_len out (partN b x i)
    have h4 := partN_len b x i
    simp only [Tm.sizes]
    unfold partN at h2 h3 h4
    omega
theorem Tm.free_len (t : Tm) : t.free.length ≤ t.size := by
  induction t using Tm.ind' with | h t ih => ?_
  rw [Tm.free_eq]
  have := Tm.frees_len_of (boundN t) t.args ih 0 []
  have := t.size_eq
  split
  · simp only [List.length_cons, List.length_nil]; omega
  · simp only [List.length_nil] at *; omega
theorem Tm.frees_size_of (b : List ByteArray × Int) (N : Nat) (xs : List Tm) (h : ∀ t ∈ xs, ∀ s ∈ t.free, s.size ≤ N) : ∀ i out, (∀ s ∈ out, s.size ≤ N) → ∀ s ∈ Tm.frees b xs i out, s.size ≤ N := by
  induction xs with
  | nil => intro i out ho; rw [Tm.frees]; exact ho
  | cons x xs ih =>
    intro i out ho
    rw [Tm.frees]
    refine ih (fun t ht => h t (by simp [ht])) _ _ fun s hs => ?_
    rcases uniteN_mem hs with hs | hs
    · exact ho s hs
    · split at hs
      · exact h x (by simp) s ((List.mem_filter.1 hs).1)
      · exact h x (by simp) s hs
end Go.Proofs.YtcbgapncmjjmeaaDoor
