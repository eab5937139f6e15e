/-
  The walk of SafeCtx.
-/
import Derived.Test.YtklifieahcoljaaGreatConM
import Derived.Test.YtklifieahcoljaaGreatBaseTy
namespace Go.Proofs.YtklifieahcoljaaGreat
open Go.RowKit
set_option maxRecDepth 100000
set_option linter.unusedVariables false
set_option linter.unusedSimpArgs false

theorem TyA.plain {base base' : Nat} {w w' : World} {t : Ty} {a : Option Addr} {n c : Nat} (h : TyA base w t a n c) (ht : t.args = []) : TyA base' w' t a n c := by
  obtain ⟨k, xs⟩ := t
  obtain rfl : xs = [] := ht
  obtain ⟨fp, h, -⟩ := h
  rw [RT] at h
  obtain ⟨h0, hk, a2, cap, h1, hl, hm, h2⟩ := h
  refine ⟨[], ?_, by simp⟩
  rw [RT]
  exact ⟨h0, hk, a2, cap, h1, hl, hm, .inl ⟨rfl, rfl⟩⟩
theorem RCC_plain {base base' : Nat} {w w' : World} : ∀ {xs : List (Rc Int)} {cs : List Value}, RCC base w xs cs → (∀ r ∈ xs, r.type.args = []) → RCC base' w' xs cs
  | [], _, h, _ => h
  | r :: rs, _, h, hp => by
    obtain ⟨a, n, c, rest, rfl, hT, hr, h2⟩ := h
    exact ⟨a, n, c, rest, rfl, hT.plain (hp r (by simp)), hr, RCC_plain h2 fun x hx => hp x (by simp [hx])⟩
theorem base_args {t : Ty} (h : t.base = true) : t.args = [] := by
  obtain ⟨k, xs⟩ := t
  simp only [Ty.base, Bool.and_eq_true] at h
  have h2 := h.2
  simpa using h2

set_option maxHeartbeats 6400000 in
theorem safeCtx_any (base : Nat) (xs : List (Rc Int)) (a : Option Addr) (n cap : Nat) (m : Int) (w : World) (h : CtxR base w xs a n cap) (hn : n ≤ 1000) :
    Calls Tryz.prog 99 #[.slice a n cap, .int .i64 m] w fun e w' => ∃ ys a' n' cap', e = .returned (.slice a' n' cap') ∧ n' ≤ n ∧ CtxR w.heap.size w' ys a' n' cap' ∧ Below w.heap.size w w' := by
  obtain ⟨i0, hi, hz0, hz1, hz2⟩ := info_parts Tryz.infoTyping
  have hx := hide h.1
  go_enter Tryz.func99, Tryz.ntmps99
  go_wp2_with fail
  go_loopw [5, 6] (fun v i wr => ∃ k : Nat, k ≤ n ∧ i = .int .i64 k ∧ (∃ ys cs q, wr.ownsRow w.heap.size 88 4 v q cs ∧ q ≤ k ∧ Hid (q = ys.length ∧ RCC w.heap.size wr ys cs ∧ ∀ r ∈ ys, r.type.args = [])) ∧ Below w.heap.size w wr) (fun _ i _ => n - (intOf i).toNat)
  case atStart => exact ⟨0, by omega, rfl, ⟨[], [], 0, World.ownsRow_made w #[] 0 (Nat.le_refl _) (by simp) (by simp), Nat.le_refl _, rfl, rfl, by simp⟩, below_new _ _⟩
  case round =>
    obtain ⟨k, hk, rfl, ⟨ys, cs, q, hO, hq, HY⟩, hb⟩ := hrel
    have hsz := hb.size
    by_cases hkn : k < n
    · have hkx : k < xs.length := by rw [← hx.out]; exact hkn
      have hwr := h.keep (Fresh.of_below hb)
      obtain ⟨b, off, a', n', c', rfl, hbb, hlt, e0, e1, e2, e3, hT, hnm, hlv⟩ := hwr.get k hkx
      have CB := specIsBase_any xs[k].type _ _ wr hT.rd
      cases hbase : xs[k].type.base with
      | false =>
        rw [hbase] at CB
        replace CB := hide CB
        clear hbase
        go_wp2_with (go_at_call 75; (with_reducible refine CB.out.mono ?_); rintro e w1 ⟨rfl, b1⟩)
        go_roundw
        case rel =>
          exact ⟨k + 1, by omega, by go_num, ⟨ys, cs, q, own_below hO b1, by omega, HY.out.1, RCC_plain HY.out.2.1 HY.out.2.2, HY.out.2.2⟩, below_next hb b1⟩
        case measure => simp [intOf]; omega
      | true =>
        have hargs := hide (base_args hbase)
        rw [hbase] at CB
        replace CB := hide CB
        clear hbase
        go_wp2_with fail
        refine CB.out.mono ?_
        rintro e w1 ⟨rfl, b1⟩
        have hF := Fresh.of_below (base := base) b1
        have h1 := hwr.keep hF
        obtain ⟨b2, off2, a2, n2, c2, hab, hbb2, hlt2, f0, f1, f2, f3, hT2, -, -⟩ := h1.get k hkx
        injection hab with hab
        injection hab with r1 r2
        subst r1 r2
        have hO1 := own_below hO b1
        have hb1 := below_next hb b1
        have hsz1 := hb1.size
        have CL := hide (l9Last_any base xs _ n cap xs[k].name w1 h1 hn)
        have HD := hide hT2
        by_cases hlm : xs[k].last ≤ m
        · have hd : decide (xs[k].last ≤ m) = true := by simpa using hlm
          go_wp2_with fail
          refine CL.out.mono ?_
          rintro e w1' ⟨r, rfl, hr0, hr1, rfl⟩
          by_cases hrk : r = (k : Int)
          · subst hrk
            have C3 := hide (fun (W : World) (hW : Below w1.heap.size w1 W) => l3Copy_any xs[k].type _ _ W (HD.out.rd.below hW) (by rw [hargs.out]; simp [Ty.sizes]))
            go_wp2_with fail
            go_region_law (first
              | (go_simp; go_at_call 68; (with_reducible refine (C3.out _ (below_drew _)).mono ?_); rintro e w2 ⟨d0, d1, fp, rfl, hR2, -, hO2, b2'⟩; have b2 : Below w1.heap.size w1 w2 := below_next (below_drew _) b2'; have s2 := b2.size; obtain ⟨xa, xn, xc, rfl, rfl, -, -⟩ := hR2.rd.shape; have g0 := (b2.cell hlt2).trans f0; have g3 := (b2.cell hlt2).trans f3)
              | (refine step_append_lies _ (by rfl) _ _ _ (by rfl) w.heap.size 88 i0 _ 4 56 Tryz.underlying61 hi hz0 hz1 hz2 rfl (by omega) _ q cs (by rfl) ((own_below hO1 b2).alloc _) ⟨w2.heap.size, 0, none⟩ 1 1 [.string xs[k].name, .int .i64 xs[k].type.kind, .slice xa xn xc, .int .i64 xs[k].last] (by rfl) (by rfl) (World.news_of_block (cs := #[.string xs[k].name, .int .i64 xs[k].type.kind, .slice xa xn xc, .int .i64 xs[k].last]) (t := 88) (fr := (0, 0)) (heap_alloc_new w2 _)) (by simp [Value.oneCell']) (by omega) (by unfold maxLen; omega) (by omega) (by simp; omega) (w2.heap.size + 1) (by simp) ?_; intro gg cap' w3 hown3 hgrow hat hlt3))
            all_goals
              go_wp2_with fail
              go_roundw
              case rel =>
                obtain ⟨hq1, hRC, hpl⟩ := HY.out
                have hpl2 : ∀ r ∈ ys ++ [xs[k]], r.type.args = [] := fun r hr => (List.mem_append.1 hr).elim (hpl r) fun h => by rw [List.mem_singleton.1 h]; exact hargs.out
                have hTn : TyA w.heap.size w3 xs[k].type xa xn xc := TyA.plain (base := 0) (w := w2) ⟨fp, hR2, fun b _ => Nat.zero_le _⟩ hargs.out
                exact ⟨k + 1, by omega, by go_num, ⟨ys ++ [xs[k]], _, q + 1, hown3, by omega, by rw [List.length_append, hq1]; rfl, RCC_snoc hTn ⟨hnm, hlv⟩ (RCC_plain hRC hpl), hpl2⟩,
                  (((hb1.trans (b2.mono hsz1)).alloc (by omega) _).grown hgrow (by simp; omega) fun k hk => (hO1.lt k hk).1)⟩
              case measure => simp [intOf]; omega
          · have hd2 : (r == (k : Int)) = false := beq_eq_false_iff_ne.2 hrk
            go_wp2_with fail
            go_roundw
            case rel =>
              exact ⟨k + 1, by omega, by go_num, ⟨ys, cs, q, hO1, by omega, HY.out.1, RCC_plain HY.out.2.1 HY.out.2.2, HY.out.2.2⟩, hb1⟩
            case measure => simp [intOf]; omega
        · have hd : decide (xs[k].last ≤ m) = false := by simpa using hlm
          go_wp2_with fail
          go_roundw
          case rel =>
            exact ⟨k + 1, by omega, by go_num, ⟨ys, cs, q, hO1, by omega, HY.out.1, RCC_plain HY.out.2.1 HY.out.2.2, HY.out.2.2⟩, hb1⟩
          case measure => simp [intOf]; omega
    · obtain ⟨hq1, hR, -⟩ := HY.out
      obtain ⟨a', c', rfl, hC⟩ := CtxR.of_row hO hq1 hR
      go_wp2_with fail
      go_ret
      exact ⟨ys, a', q, c', rfl, by omega, hC, hb⟩
end Go.Proofs.YtklifieahcoljaaGreat
