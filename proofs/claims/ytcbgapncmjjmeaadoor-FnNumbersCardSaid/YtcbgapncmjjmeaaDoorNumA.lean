/-
  The walk of readInt over the library's Atoi.
-/
import Derived.Test.YtcbgapncmjjmeaaDoorNumW
import Derived.Lib.AtoiErrMem
import Derived.Lib.AtoiAllCases
namespace Go.Proofs.YtcbgapncmjjmeaaDoor
open Go.RowKit
set_option maxRecDepth 100000
set_option linter.unusedVariables false
set_option linter.unusedSimpArgs false

/-- The library's two errors lie. -/
def Syn (w : World) : Prop := ∃ tp p, w.var? Tryd.prog "strconv.ErrSyntax" = some #[.iface tp p]
def Rng (w : World) : Prop := ∃ tp p, w.var? Tryd.prog "strconv.ErrRange" = some #[.iface tp p]
theorem var_below {w w' : World} {name : String} {cs : Array Value} (h : w.var? Tryd.prog name = some cs) (hb : Below w.heap.size w w') : w'.var? Tryd.prog name = some cs := by
  rw [World.var?] at h ⊢
  revert h
  cases hg : Tryd.prog.globalNamed name with
  | none => simp
  | some g =>
    simp only [Option.bind_some]
    intro h
    have hl : g < w.heap.size := by
      rcases Nat.lt_or_ge g w.heap.size with h1 | h1
      · exact h1
      · rw [Array.getElem?_eq_none h1] at h
        simp at h
    rw [hb.block g hl]
    exact h
theorem Syn.below {w w' : World} (h : Syn w) (hb : Below w.heap.size w w') : Syn w' := let ⟨tp, p, e⟩ := h; ⟨tp, p, var_below e hb⟩
theorem Rng.below {w w' : World} (h : Rng w) (hb : Below w.heap.size w w') : Rng w' := let ⟨tp, p, e⟩ := h; ⟨tp, p, var_below e hb⟩

theorem atoi_good (s : ByteArray) (w : World) (hs : s.size ≤ 1048576) {v : Int} (h : Lib.atoiAll s.data.toList = .ok v) :
    Calls Tryd.prog 77 #[.string s] w fun e w' => e = .returned (.tuple #[.int .i64 v, .nilIface]) ∧ Below w.heap.size w w' := by
  refine (Tryd.strconv_Atoi_ok s (by omega) v h w).mono fun e w' ⟨he, hw⟩ => ⟨he, ?_⟩
  rcases hw with rfl | ⟨t, rfl⟩
  · exact Below.refl _ _
  · exact Lib.bytesWorld_below _ _ _
theorem atoi_bad (s : ByteArray) (w : World) (hs : s.size ≤ 1048576) (h : ∀ v, Lib.atoiAll s.data.toList ≠ .ok v) (h1 : Syn w) (h2 : Rng w) :
    Calls Tryd.prog 77 #[.string s] w fun e w' => ∃ n te b, e = .returned (.tuple #[.int .i64 n, .iface te (.pointer (some ⟨b, 0, none⟩))]) ∧ Below w.heap.size w w' := by
  cases hc : Lib.atoiAll s.data.toList with
  | ok v => exact absurd hc (h v)
  | range =>
    obtain ⟨tp, p, hv⟩ := h2
    exact (Go.Proofs.Any.strconv_Atoi_range_var Tryd.laysC172 s (by omega) hc tp p w hv).mono fun e w' ⟨N, he, _, _, hb⟩ => ⟨_, _, N, he, hb⟩
  | _ =>
    obtain ⟨tp, p, hv⟩ := h1
    exact (Go.Proofs.Any.strconv_Atoi_syntax_var Tryd.laysC172 s (by omega) hc tp p w hv).mono fun e w' ⟨N, he, _, _, hb⟩ => ⟨_, _, N, he, hb⟩
set_option maxHeartbeats 1600000 in
theorem implRead_any (lo hi : Int) (s : ByteArray) (w : World) (hs : s.size ≤ 1048576) (h1 : Syn w) (h2 : Rng w) (h3 : Tab w) (hlo : -1000000000000 < lo) (hhi : hi < 1000000000000) :
    Calls Tryd.prog 51 #[.string s, .int .i64 lo, .int .i64 hi] w (GivesN w lo hi s) := by
  by_cases hv : ∃ v, Lib.atoiAll s.data.toList = .ok v
  · obtain ⟨v, hv⟩ := hv
    have hi64 : i64 v := Lib.atoiAll_bounds hv
    have A := hide (atoi_good s w hs hv)
    have C := fun (W : World) (hW : Below w.heap.size w W) => implFormatInt_any v W hi64 (h3.below hW)
    have hsame : itoaS v = s → s.data.toList = Lib.itoa v := fun h => by rw [← h]; simp [itoaS]
    have hsame2 : s.data.toList = Lib.itoa v → itoaS v = s := fun h => by rw [itoaS, ← h]
    have honly := fun (m : Int) (a : lo ≤ m) (b : m ≤ hi) e => reads_of_atoi hv hlo hhi a b e
    generalize itoaS v = x at C hsame hsame2
    replace C := hide C
    replace hsame := hide hsame
    replace hsame2 := hide hsame2
    replace honly := hide honly
    have Q := fun (b : Bool) (h : inB v lo hi = b) (W : World) => within_is h W
    cases hin : inB v lo hi with
    | true =>
      have hin2 := inB_iff.1 hin
      have Q1 := hide (Q _ hin)
      clear Q hv h1 h2 h3 hlo hhi hin
      by_cases hx : x = s
      · have hx1 := ba_same hx
        go_enter Tryd.func51, Tryd.ntmps51
        go_wp2_with (first
          | (go_at_call 77; (with_reducible refine A.out.mono ?_); rintro e w1 ⟨rfl, b1⟩)
          | (go_at_call 12; (with_reducible refine (C.out _ b1).mono ?_); rintro e w2 ⟨rfl, b2⟩; have b12 := below_next b1 b2)
          | (go_at_call 75; (with_reducible refine (Q1.out _).mono ?_); rintro e w3 ⟨rfl, rfl⟩))
        go_ret2
        exact ⟨v, true, rfl, .inl ⟨hsame.out hx, hin2.1, hin2.2, rfl⟩, b12⟩
      · have hx1 := ba_other hx
        go_enter Tryd.func51, Tryd.ntmps51
        go_wp2_with (first
          | (go_at_call 77; (with_reducible refine A.out.mono ?_); rintro e w1 ⟨rfl, b1⟩)
          | (go_at_call 12; (with_reducible refine (C.out _ b1).mono ?_); rintro e w2 ⟨rfl, b2⟩; have b12 := below_next b1 b2))
        go_ret2
        exact ⟨0, false, rfl, .inr ⟨fun m a b e => hx (hsame2.out (by rw [← honly.out m a b e]; exact e)), rfl, rfl⟩, b12⟩
    | false =>
      have hin2 : ¬ (lo ≤ v ∧ v ≤ hi) := fun h => by rw [inB_iff.2 h] at hin; cases hin
      have Q1 := hide (Q _ hin)
      clear Q hv h1 h2 h3 hlo hhi hin
      have hno : ∀ m, lo ≤ m → m ≤ hi → s.data.toList ≠ Lib.itoa m := fun m a b e => hin2 (by rw [← honly.out m a b e]; exact ⟨a, b⟩)
      replace hno := hide hno
      clear hin2
      by_cases hx : x = s
      · have hx1 := ba_same hx
        go_enter Tryd.func51, Tryd.ntmps51
        go_wp2_with (first
          | (go_at_call 77; (with_reducible refine A.out.mono ?_); rintro e w1 ⟨rfl, b1⟩)
          | (go_at_call 12; (with_reducible refine (C.out _ b1).mono ?_); rintro e w2 ⟨rfl, b2⟩; have b12 := below_next b1 b2)
          | (go_at_call 75; (with_reducible refine (Q1.out _).mono ?_); rintro e w3 ⟨rfl, rfl⟩))
        go_ret2
        exact ⟨0, false, rfl, .inr ⟨hno.out, rfl, rfl⟩, b12⟩
      · have hx1 := ba_other hx
        go_enter Tryd.func51, Tryd.ntmps51
        go_wp2_with (first
          | (go_at_call 77; (with_reducible refine A.out.mono ?_); rintro e w1 ⟨rfl, b1⟩)
          | (go_at_call 12; (with_reducible refine (C.out _ b1).mono ?_); rintro e w2 ⟨rfl, b2⟩; have b12 := below_next b1 b2))
        go_ret2
        exact ⟨0, false, rfl, .inr ⟨hno.out, rfl, rfl⟩, b12⟩
  · have hb : ∀ v, Lib.atoiAll s.data.toList ≠ .ok v := fun v e => hv ⟨v, e⟩
    have A := hide (atoi_bad s w hs hb h1 h2)
    have hno : Hid (∀ m, lo ≤ m → m ≤ hi → s.data.toList ≠ Lib.itoa m) := fun m a b e => hb m (atoiAll_itoa e (by omega) (by omega))
    clear hv hb h1 h2 h3 hlo hhi
    go_enter Tryd.func51, Tryd.ntmps51
    go_wp2_with (go_at_call 77; (with_reducible refine A.out.mono ?_); rintro e w1 ⟨n, te, bb, rfl, b1⟩)
    go_ret2
    exact ⟨0, false, rfl, .inr ⟨hno.out, rfl, rfl⟩, b1⟩
theorem specParseInt_any (s : ByteArray) (w : World) (hs : s.size ≤ 1048576) : Calls Tryd.prog 13 #[.string s] w (GivesN w (-999999999999) 999999999999 s) := by
  have C0 : Calls Tryd.prog 50 #[.string s, .int .i64 12] w (GivesN w (-999999999999) 999999999999 s) := specRead_any 12 s w (by omega) (by omega) hs (-999999999999) 999999999999 (by decide) (by decide)
  have C := hide C0
  clear C0
  go_enter Tryd.func13, Tryd.ntmps13
  go_wp2_with (go_at_call 50; (with_reducible refine C.out.mono ?_); rintro e w1 ⟨n, b, rfl, hr, b1⟩)
  go_ret2
  exact ⟨n, b, rfl, hr, b1⟩
theorem implParseInt_any (s : ByteArray) (w : World) (hs : s.size ≤ 1048576) (h1 : Syn w) (h2 : Rng w) (h3 : Tab w) : Calls Tryd.prog 14 #[.string s] w (GivesN w (-999999999999) 999999999999 s) := by
  have C := hide (implRead_any (-999999999999) 999999999999 s w hs h1 h2 h3 (by omega) (by omega))
  go_enter Tryd.func14, Tryd.ntmps14
  go_wp2_with (go_at_call 51; (with_reducible refine C.out.mono ?_); rintro e w1 ⟨n, b, rfl, hr, b1⟩)
  go_ret2
  exact ⟨n, b, rfl, hr, b1⟩
theorem specParseNumber_any (s : ByteArray) (w : World) (hs : s.size ≤ 1048576) : Calls Tryd.prog 15 #[.string s] w (GivesN w 0 999999 s) := by
  have C0 : Calls Tryd.prog 50 #[.string s, .int .i64 6] w (GivesN w (-999999) 999999 s) := specRead_any 6 s w (by omega) (by omega) hs (-999999) 999999 (by decide) (by decide)
  have C := hide C0
  clear C0
  have key : ∀ n b, Reads (-999999) 999999 s n b → (b = false → n = 0 ∧ Hid (Reads 0 999999 s 0 false)) ∧ (b = true → (n < 0 → Hid (Reads 0 999999 s 0 false)) ∧ (0 ≤ n → Hid (Reads 0 999999 s n true))) := by
    rintro n b (⟨h1, h2, h3, rfl⟩ | ⟨h1, rfl, rfl⟩)
    · refine ⟨fun h => (nomatch h), fun _ => ⟨fun h => .inr ⟨fun m a b e => ?_, rfl, rfl⟩, fun h => .inl ⟨h1, h, h3, rfl⟩⟩⟩
      have := itoa_inj (h1.symm.trans e)
      omega
    · exact ⟨fun _ => ⟨rfl, .inr ⟨fun m a b => h1 m (by omega) b, rfl, rfl⟩⟩, fun h => (nomatch h)⟩
  replace key := hide key
  go_enter Tryd.func15, Tryd.ntmps15
  go_wp2_with fail
  refine C.out.mono ?_
  rintro e w1 ⟨n, b, rfl, hr, b1⟩
  have K := key.out n b hr
  clear hr key
  cases b with
  | false =>
    obtain ⟨rfl, hr⟩ := K.1 rfl
    clear K
    go_wp2_with fail
    go_ret2
    exact ⟨0, false, rfl, hr.out, b1⟩
  | true =>
    obtain ⟨K1, K2⟩ := K.2 rfl
    clear K
    by_cases hn : n < 0
    · have hr := K1 hn
      have t1 : decide (n < 0) = true := by simp; omega
      clear K1 K2
      go_wp2_with fail
      go_ret2
      exact ⟨0, false, rfl, hr.out, b1⟩
    · have hr := K2 (by omega)
      have t1 : decide (n < 0) = false := by simp; omega
      clear K1 K2
      go_wp2_with fail
      go_ret2
      exact ⟨n, true, rfl, hr.out, b1⟩
theorem implParseNumber_any (s : ByteArray) (w : World) (hs : s.size ≤ 1048576) (h1 : Syn w) (h2 : Rng w) (h3 : Tab w) : Calls Tryd.prog 16 #[.string s] w (GivesN w 0 999999 s) := by
  have C := hide (implRead_any 0 999999 s w hs h1 h2 h3 (by omega) (by omega))
  go_enter Tryd.func16, Tryd.ntmps16
  go_wp2_with (go_at_call 51; (with_reducible refine C.out.mono ?_); rintro e w1 ⟨n, b, rfl, hr, b1⟩)
  go_ret2
  exact ⟨n, b, rfl, hr, b1⟩
end Go.Proofs.YtcbgapncmjjmeaaDoor
