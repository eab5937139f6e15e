/-
  The law FnSplit: a text cut and joined again is the same; each piece is whole.
-/
import Derived.Test.YtcbgapncmjjmeaaDoorSplit
import Derived.Test.YtcbgapncmjjmeaaDoorJoin
import Derived.Test.YtcbgapncmjjmeaaDoorDrawS
namespace Go.Proofs.YtcbgapncmjjmeaaDoor.fnSplit
open Go.RowKit
set_option maxRecDepth 100000
set_option linter.unusedVariables false
set_option linter.unusedSimpArgs false

theorem join_more (x : List UInt8) (r : List (List UInt8)) (sep : List UInt8) (h : r ≠ []) : Lib.join (x :: r) sep = x ++ sep ++ Lib.join r sep := by
  cases r with
  | nil => exact absurd rfl h
  | cons y r => simp [Lib.join_cons, Lib.joinTail, List.append_assoc]
theorem join_front (b : UInt8) (x : List UInt8) (r : List (List UInt8)) (sep : List UInt8) : Lib.join ((b :: x) :: r) sep = b :: Lib.join (x :: r) sep := by
  simp [Lib.join_cons]
theorem join_cut (c : UInt8) : ∀ l : List UInt8, Lib.join (cut c l) [c] = l
  | [] => by simp [cut, Lib.join_one]
  | b :: r => by
    have ih := join_cut c r
    rw [cut]
    split
    · rename_i h
      rw [join_more _ _ _ (cut_ne c r), ih, h]
      simp
    · split
      · rename_i h
        exact absurd h (cut_ne c r)
      · rename_i p ps h
        rw [h] at ih
        rw [join_front, ih]
theorem bjoin_pieces (s : ByteArray) (c : UInt8) : (⟨(bjoin (pieces s c) ⟨#[c]⟩).toArray⟩ : ByteArray) = s := by
  have h : bjoin (pieces s c) ⟨#[c]⟩ = s.data.toList := by
    rw [bjoin, pieces, List.map_map]
    have e : (cut c s.data.toList).map ((fun x : ByteArray => x.data.toList) ∘ fun l => ⟨l.toArray⟩) = cut c s.data.toList := by
      conv => rhs; rw [← List.map_id (cut c s.data.toList)]
      exact List.map_congr_left fun x _ => rfl
    rw [e]
    exact join_cut c _
  rw [h]
theorem sum_le {m : Nat} : ∀ (xs : List ByteArray), (∀ x ∈ xs, x.size ≤ m) → (xs.map ByteArray.size).sum ≤ xs.length * m
  | [], _ => by simp
  | x :: r, h => by
    have h1 := sum_le r fun y hy => h y (by simp [hy])
    have h2 := h x (by simp)
    simp only [List.map_cons, List.sum_cons, List.length_cons, Nat.add_mul, Nat.one_mul]
    omega
theorem pieces_piece {s : ByteArray} {c : UInt8} {x : ByteArray} (hx : x ∈ pieces s c) : (pieces x c).length = 1 := by
  obtain ⟨l, hl, rfl⟩ := List.mem_map.1 hx
  have := (cut_mem c _ l hl).1
  rw [pieces, List.length_map]
  rw [cut_miss c _ (by exact this)]
  rfl

set_option maxHeartbeats 3200000 in
theorem walk (a : Option Addr) (n cap : Nat) (w : World) (h : Rbs w a n cap) (hm : MaxInt w) :
    Calls Tryd.prog 9 #[.slice a n cap] w fun e w' => e = .returned (.bool true) ∧ Below w.heap.size w w' := by
  have hn : n ≤ 9223372036854775807 := by obtain ⟨h2, h3, _⟩ := h; unfold maxLen at h3; omega
  by_cases hbig : n ≤ 1048576
  · have hd : decide ((n : Int) > 1048576) = false := by simp; omega
    have CB := bigN_any a n cap w hn
    rw [hd] at CB
    replace CB := hide CB
    have HR := hide h
    have HM := hide hm
    clear h hm
    go_enter Tryd.func9, Tryd.ntmps9
    go_wp2_with (go_at_call 26; (with_reducible refine CB.out.mono ?_); rintro e w0 ⟨rfl, rfl⟩)
    refine (drawSplit_any a n cap _ HR.out).mono ?_
    rintro e w1 ⟨s, c, rfl, hs, b1⟩
    have I1 := fun (W : World) (hW : Below w.heap.size w W) => implSplit_any s c W (by omega) (HM.out.below hW)
    have hpl := pieces_len s c
    have hps := pieces_size s c
    have hsum := sum_le (m := 1000) (pieces s c) fun x hx => by have := hps x hx; omega
    have hzz : sizeSs (pieces s c) ≤ 1048576 := by unfold sizeSs; omega
    have hj := bjoin_pieces s c
    have hpp := hide (fun x (hx : x ∈ pieces s c) => pieces_piece hx)
    have S1 := fun (W : World) => specSplit_any s c W (by omega)
    have J1 := fun (W : World) (g : Option Addr) (cp : Nat) (hR : Rss W (pieces s c) g (pieces s c).length cp) => implJoin_any (pieces s c) ⟨#[c]⟩ g _ cp W hR (by simp [ByteArray.size]) hzz
    rw [hj] at J1
    have hwz : ∀ x ∈ pieces s c, x.size ≤ 9223372036854775807 := fun x hx => by have := hps x hx; omega
    have hwy := hide (fun x (hx : x ∈ pieces s c) => show x.size ≤ 1048576 by have := hps x hx; omega)
    generalize pieces s c = zs at hpl hwz I1 S1 J1 hpp hwy
    replace I1 := hide I1
    replace S1 := hide S1
    replace J1 := hide J1
    clear hps hsum hzz hj
    have e5 : (s.toList == s.toList) = true := by simp
    go_wp2_with fail
    refine (I1.out _ b1).mono ?_
    rintro e w2 ⟨v0, rfl, hO0, b2⟩
    have k2 := below_next b1 b2
    obtain ⟨a0, c0, rfl, R0⟩ := hO0.read hwz
    have hcv := one_text (P := Tryd.prog) w2 35 9 5 Tryd.underlying35 Tryd.underlying5 Tryd.underlying9 c
    have bn := below_new w2 (.cells #[.int .u8 (c.toNat : Int)] 5)
    have R1 := R0.below bn
    have k3 := below_next k2 bn
    go_wp2_with (first
      | (go_at_call 30; (with_reducible refine (J1.out _ _ _ R1).mono ?_); rintro e w3 ⟨rfl, b3⟩; have k4 := below_next k3 b3)
      | (go_at_call 22; (with_reducible refine (S1.out _).mono ?_); rintro e w4 ⟨v1, rfl, hO1, b4⟩; have k5 := below_next k4 b4; obtain ⟨a1, c1, rfl, -⟩ := hO1.read hwz))
    have hzl : zs.length ≤ 1001 := by omega
    have k34 := below_next bn b3
    have R4 := (R0.below k34).below b4
    clear hO0 hO1 R1 R0 hcv bn S1 J1 e5
    go_loopw [6] (fun i wr => ∃ k : Nat, k ≤ zs.length ∧ i = .int .i64 k ∧ Below w4.heap.size w4 wr) (fun i _ => zs.length - (intOf i).toNat)
    case atStart => exact ⟨0, by omega, rfl, Below.refl _ _⟩
    case round =>
      obtain ⟨k, hk, rfl, hb⟩ := hrel
      have kb := below_next k5 hb
      by_cases hkn : k < zs.length
      · obtain ⟨b, off, rfl, hlt', e0⟩ := (R4.below hb).get k hkn
        have hmem : zs[k] ∈ zs := List.getElem_mem hkn
        have hone := hpp.out _ hmem
        have hsize := hwy.out _ hmem
        have hwz2 : ∀ x ∈ pieces zs[k] c, x.size ≤ 9223372036854775807 := fun x hx => by have := pieces_size zs[k] c x hx; omega
        have I2 := implSplit_any zs[k] c wr hsize (HM.out.below kb)
        generalize pieces zs[k] c = ys at hone hwz2 I2
        clear hmem hsize
        go_wp2_with fail
        refine I2.mono ?_
        rintro e w6 ⟨v6, rfl, hO6, b6⟩
        obtain ⟨a6, c6, rfl, -⟩ := hO6.read hwz2
        rw [hone]
        clear hO6 hwz2 I2 hone
        go_wp2_with fail
        go_roundw
        case rel => exact ⟨k + 1, by omega, by go_num, below_next hb b6⟩
        case measure => simp [intOf]; omega
      · go_wp2_with fail
        go_ret
        exact ⟨rfl, kb⟩
  · have hd : decide ((n : Int) > 1048576) = true := by simp; omega
    have CB := bigN_any a n cap w hn
    rw [hd] at CB
    replace CB := hide CB
    go_enter Tryd.func9, Tryd.ntmps9
    go_wp2_with (go_at_call 26; (with_reducible refine CB.out.mono ?_); rintro e w0 ⟨rfl, rfl⟩)
    go_ret
    exact ⟨rfl, Below.refl _ _⟩
end Go.Proofs.YtcbgapncmjjmeaaDoor.fnSplit
