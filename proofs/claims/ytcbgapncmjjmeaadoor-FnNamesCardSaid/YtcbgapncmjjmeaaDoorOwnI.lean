/-
  The walks of the library's Grow and Concat at strings, and of the program's UniteNames and WithoutName.
-/
import Derived.Test.YtcbgapncmjjmeaaDoorDelS
import Derived.Lib.AppendZerosOnto
namespace Go.Proofs.YtcbgapncmjjmeaaDoor
open Go.RowKit
set_option maxRecDepth 100000
set_option linter.unusedVariables false
set_option linter.unusedSimpArgs false

set_option maxHeartbeats 1600000 in
theorem growS_any (n : Nat) (w : World) (hl : n ≤ 4194304) :
    Calls Tryd.prog 82 #[.slice none 0 0, .int .i64 (n : Int)] w (GivesS w []) := by
  obtain ⟨i0, hi, hz0, hz1, hz2⟩ := info_parts Tryd.infoStr
  by_cases h0 : n = 0
  · subst h0
    go_enter Tryd.func82, Tryd.ntmps82
    go_wp2_with fail
    go_ret
    exact ⟨_, rfl, World.ownsRow_nil _ _ _ _, Below.refl _ _⟩
  · have hrz : ∀ ty, (Builtin.append_ #[27, 3] ty #[.slice none 0 0, .int .i64 (n : Int)]).run Tryd.prog w =
        .ok (.slice (some ⟨w.heap.size, 0, none⟩) n (grownCap w n 0 9)) (w.drew.alloc (.cells (#[] ++ Builtin.zeroCells (Value.string ⟨#[]⟩).cells n ++ Builtin.zeroCells (Value.string ⟨#[]⟩).cells (grownCap w n 0 9 - n)) 9)) := fun ty => by
      have h := Lib.run_append_grow_zeros (P := Tryd.prog) w 27 3 ty 9 i0 (.string ⟨#[]⟩) .i64 .i64 Tryd.underlying27 Tryd.underlying3 hi hz0 none 0 0 [] (run_firstCells_none w.drew i0.size 0 0 0) n (by omega) (by rw [hz1]; decide) (by omega) (by omega)
        (by rw [hz2]; omega) (growslice_fits (by omega) (by rw [hz2]; omega))
      simpa using h
    have hge : n ≤ grownCap w n 0 9 := grownCap_ge w _ _ _
    obtain ⟨G, hG⟩ : ∃ G, G = grownCap w n 0 9 := ⟨_, rfl⟩
    have hG63 := grownCap_le_maxLen w n 0 9 (by unfold maxLen; omega)
    rw [← hG] at hrz hge hG63
    have hG64 : G ≤ 9223372036854775807 := by unfold maxLen at hG63; omega
    have h4 : (n : Int) > 0 := by omega
    replace hG := hide hG
    replace hG63 := hide hG63
    go_enter Tryd.func82, Tryd.ntmps82
    go_wp2_with (at_builtin; refine Lib.wpList_append_run _ rfl _ _ 27 3 rfl _ _ rfl rfl _ _ (hrz _) ?_)
    go_wp2_with fail
    go_ret
    refine ⟨_, rfl, ?_, ((Below.refl _ w).drew).alloc (Nat.le_refl _) _⟩
    refine ⟨by simp, .inr ⟨w.heap.size, G, _, rfl, Nat.le_refl _, heap_alloc_new w.drew _, Nat.zero_le _, hG63.out, ?_, by simp⟩⟩
    simp [Builtin.zeroCells, Value.cells]
    omega

set_option maxHeartbeats 3200000 in
theorem concatS_any (xs ys : List ByteArray) (p p' : Addr) (n cap n' cap' B : Nat) (w : World) (h : Rss w xs (some p) n cap) (h' : Rss w ys (some p') n' cap') (hB : Blk w B 27 #[.slice (some p) n cap, .slice (some p') n' cap']) (hl : xs.length + ys.length ≤ 4194304) :
    Calls Tryd.prog 63 #[.slice (some ⟨B, 0, none⟩) 2 2] w (GivesS w (xs ++ ys)) := by
  have hn : n + n' ≤ 4194304 := by rw [h.1, h'.1]; exact hl
  have hx := hide h.1
  have hy := hide h'.1
  obtain ⟨i0, hi, hz0, hz1, hz2⟩ := info_parts Tryd.infoStr
  obtain ⟨c0, c1⟩ := hB.two
  replace hl := hide hl
  have CG := hide fun W => growS_any (n + n') W hn
  go_enter Tryd.func63, Tryd.ntmps63
  go_wp2_with fail
  go_loopw [3, 11] (fun s i wr => ((i = .int .i64 0 ∧ s = .int .i64 0) ∨ (i = .int .i64 1 ∧ s = .int .i64 (n : Int)) ∨ (i = .int .i64 2 ∧ s = .int .i64 ((n + n' : Nat) : Int))) ∧ w = wr) (fun _ i _ => 2 - (intOf i).toNat)
  case atStart => exact ⟨.inl ⟨rfl, rfl⟩, rfl⟩
  case round =>
    obtain ⟨hr, rfl⟩ := hrel
    rcases hr with ⟨rfl, rfl⟩ | ⟨rfl, rfl⟩ | ⟨rfl, rfl⟩
    · go_wp2_with fail
      go_roundw
      case rel => exact ⟨.inr (.inl ⟨rfl, rfl⟩), by trivial⟩
      case measure => simp [intOf]
    · go_wp2_with fail
      go_roundw
      case rel => exact ⟨.inr (.inr ⟨rfl, by first | rfl | (congr 1; omega)⟩), by trivial⟩
      case measure => simp [intOf]
    · go_wp2_with fail
      refine (CG.out _).mono ?_
      rintro e w1 ⟨v, rfl, hO, b1⟩
      have B1 := hB.under b1
      have r1 := h.below b1
      have r2 := h'.below b1
      obtain ⟨d0, d1⟩ := B1.two
      clear c0 c1
      go_wp2_with fail
      go_loopw [6, 27] (fun v i wr => ((i = .int .i64 0 ∧ OwnS w.heap.size wr v []) ∨ (i = .int .i64 1 ∧ OwnS w.heap.size wr v xs) ∨ (i = .int .i64 2 ∧ OwnS w.heap.size wr v (xs ++ ys))) ∧ Below w.heap.size w wr) (fun _ i _ => 2 - (intOf i).toNat)
      case atStart => exact ⟨.inl ⟨rfl, hO⟩, b1⟩
      case round =>
        clear hO d0 d1 r1 r2 B1
        obtain ⟨hr, hb⟩ := hrel
        have hsz := hb.size
        have B1 := hB.under hb
        have r1 := h.below hb
        have r2 := h'.below hb
        obtain ⟨d0, d1⟩ := B1.two
        rcases hr with ⟨rfl, hO⟩ | ⟨rfl, hO⟩ | ⟨rfl, hO⟩
        · go_wp2_with (at_builtin; refine wpList_append_own _ rfl _ _ 27 rfl w.heap.size 9 i0 (.string ⟨#[]⟩) 1 16 Tryd.underlying27 hi hz0 hz1 hz2 rfl (by decide) _ _ _ rfl hO p n cap (xs.map Value.string) rfl ?c0 r1.news (strings_cell xs) ?c3 ?c4 ?c5 ?_)
          case c0 => rw [List.length_map, hx.out, Nat.mul_one]
          case c3 => simp only [List.length_nil]; unfold maxLen; omega
          case c4 => simp only [List.length_nil]; omega
          case c5 => exact hsz
          intro v' w2 hown hgrow _
          go_wp2_with fail
          go_roundw
          case rel =>
            refine ⟨.inr (.inl ⟨rfl, ?_⟩), hb.grown hgrow hsz fun k hk => (hO.lt k hk).1⟩
            have h9 := hx.out
            rw [h9] at hown
            simpa [OwnS] using hown
          case measure => simp [intOf]
        · go_wp2_with (at_builtin; refine wpList_append_own _ rfl _ _ 27 rfl w.heap.size 9 i0 (.string ⟨#[]⟩) 1 16 Tryd.underlying27 hi hz0 hz1 hz2 rfl (by decide) _ _ _ rfl hO p' n' cap' (ys.map Value.string) rfl ?c0 r2.news (strings_cell ys) ?c3 ?c4 ?c5 ?_)
          case c0 => rw [List.length_map, hy.out, Nat.mul_one]
          case c3 => have := hx.out; unfold maxLen; omega
          case c4 => have := hx.out; omega
          case c5 => exact hsz
          intro v' w2 hown hgrow _
          go_wp2_with fail
          go_roundw
          case rel =>
            refine ⟨.inr (.inr ⟨rfl, ?_⟩), hb.grown hgrow hsz fun k hk => (hO.lt k hk).1⟩
            have h9 := hy.out
            rw [h9] at hown
            simpa [OwnS] using hown
          case measure => simp [intOf]
        · go_wp2_with fail
          go_ret
          exact ⟨_, rfl, hO, hb⟩
/-- What a call gives that makes a list of strings that is not nil. -/
def GivesN (w : World) (xs : List ByteArray) (e : Ending) (w' : World) : Prop := ∃ v, e = .returned v ∧ OwnS w.heap.size w' v xs ∧ Below w.heap.size w w' ∧ v.ownBlock.isSome = true
theorem GivesN.gives {w : World} {xs : List ByteArray} {e : Ending} {w' : World} (h : GivesN w xs e w') : GivesS w xs e w' := by
  obtain ⟨v, h1, h2, h3, -⟩ := h
  exact ⟨v, h1, h2, h3⟩
theorem Rss.grown {w w' : World} {xs : List ByteArray} {a : Option Addr} {n cap : Nat} {row : Option Nat} (h : Rss w xs a n cap) (hg : w.grownBy w' row) (hne : ∀ p, a = some p → some p.block ≠ row) : Rss w' xs a n cap := by
  obtain ⟨h1, h2, h3, hs, h4⟩ := h
  refine ⟨h1, h2, h3, hs, ?_⟩
  rcases h4 with h4 | ⟨hne', b, off, rfl, hc⟩
  · exact .inl h4
  · exact .inr ⟨hne', b, off, rfl, fun i hi => hg.cell (hc i hi) (by simpa using hne ⟨b, off, none⟩ rfl)⟩
theorem hasN_contains (xs : List ByteArray) (s : ByteArray) : (xs.any fun x => s.toList == x.toList) = hasN xs s := rfl

set_option maxHeartbeats 3200000 in
theorem implUniteNames_nn (xs ys : List ByteArray) (p p' : Addr) (n cap n' cap' : Nat) (w : World) (h : Rss w xs (some p) n cap) (h' : Rss w ys (some p') n' cap') (hl : xs.length + ys.length ≤ 4194304) :
    Calls Tryd.prog 33 #[.slice (some p) n cap, .slice (some p') n' cap'] w (GivesN w (uniteN xs ys)) := by
  obtain ⟨i0, hi, hz0, hz1, hz2⟩ := info_parts Tryd.infoStr
  have k0 : Below w.heap.size w ((w.alloc (.cells #[] 9)).alloc (.cells #[.slice (some p) n cap, .slice (some p') n' cap'] 27)) := (below_new _ _).alloc (by simp) _
  have CC := hide (concatS_any xs ys p p' n cap n' cap' _ _ (h.below k0) (h'.below k0) (Blk.new2 w _ _ _) hl)
  have hO0 := OwnS.none_ w w.heap.size (Nat.le_refl _)
  have hsz4 : ∀ x ∈ xs ++ ys, x.size ≤ 9223372036854775807 := fun x hx => (List.mem_append.1 hx).elim (h.2.2.2.1 x) (h'.2.2.2.1 x)
  obtain ⟨zs, hzs⟩ : ∃ zs, zs = xs ++ ys := ⟨_, rfl⟩
  have hu : uniteN xs ys = zs.foldl addN [] := by rw [hzs]; rfl
  have hzl : zs.length ≤ 4194304 := by rw [hzs, List.length_append]; exact hl
  rw [← hzs] at CC hsz4
  rw [hu]
  replace hzs := hide hzs
  replace hsz4 := hide hsz4
  clear hu hl h h'
  go_enter Tryd.func33, Tryd.ntmps33
  go_wp2_with fail
  refine CC.out.mono ?_
  rintro e w1 ⟨vz, rfl, hZ, b1⟩
  obtain ⟨az, cz, rfl, hRz⟩ := hZ.read hsz4.out
  have hgz := hide (show ∀ q, az = some q → w.heap.size + 1 + 1 ≤ q.block by
    intro q hq
    obtain ⟨g, cur, rfl, hbase, -, -⟩ := hZ.free rfl q hq
    simpa using hbase)
  have hO1 : OwnS w.heap.size w1 (.slice (some ⟨w.heap.size, 0, none⟩) 0 0) [] := OwnS.below (OwnS.mono (World.ownsRow.alloc hO0 _) (Nat.le_refl _)) b1
  have hb1 := k0.trans (b1.mono k0.size)
  obtain ⟨nz, hnz⟩ : ∃ nz, nz = zs.length := ⟨_, rfl⟩
  rw [← hnz] at hRz hzl ⊢
  replace hnz := hide hnz
  have hRz := hide hRz
  clear hZ
  go_wp2_with fail
  go_loopw [5, 14] (fun v i wr => ∃ j : Nat, j ≤ nz ∧ i = .int .i64 j ∧ OwnS w.heap.size wr v ((zs.take j).foldl addN []) ∧ Hid (Rss wr zs az nz cz) ∧ Hid (∀ q, az = some q → v.ownBlock ≠ some q.block) ∧ Hid (v.ownBlock.isSome = true) ∧ Below w.heap.size w wr ∧ w1.heap.size ≤ wr.heap.size) (fun _ i _ => nz - (intOf i).toNat)
  case atStart =>
    refine ⟨0, by omega, rfl, hO1, hRz, fun q hq e => ?_, rfl, hb1, Nat.le_refl _⟩
    have := hgz.out q hq
    simp [Value.ownBlock] at e
    omega
  case round =>
    clear hO1 hb1
    obtain ⟨j, hj, rfl, hO, HR, HN, HS, hb, hsw⟩ := hrel
    have hsz := hb.size
    by_cases hjn : j < nz
    · have hjx : j < zs.length := by rw [← hnz.out]; exact hjn
      obtain ⟨b, off, haz, hlt', e0⟩ := HR.out.get j hjx
      have hstep := foldl_take zs [] j hjx
      obtain ⟨acc, hacc⟩ : ∃ acc, acc = (zs.take j).foldl addN [] := ⟨_, rfl⟩
      rw [← hacc] at hO hstep
      have hlen : acc.length ≤ 4194304 := by
        have := (foldl_addN_len (zs.take j) []).2
        rw [List.length_take] at this
        rw [hacc]
        simp only [List.length_nil] at *
        omega
      obtain ⟨va, vc, hv, hR⟩ := hO.read (fun x hx => by rw [hacc] at hx; exact (foldl_addN_mem _ _ x hx).elim (fun h => by cases h) fun hin => hsz4.out x (List.mem_of_mem_take hin))
      have CI := fun W hW => containsString_any acc zs[j] va acc.length vc W hW
      replace hacc := hide hacc
      subst hv
      have hltd := hide (show ∀ q, az = some q → q.block < wr.heap.size from fun q hq => by rw [haz] at hq; injection hq with hq; subst hq; exact hlt')
      rw [haz] at HR HN hltd ⊢
      clear haz
      cases hq : hasN acc zs[j] with
      | true =>
        rw [addN_yes hq] at hstep
        simp only [hasN_contains, hq] at CI
        replace hq := hide hq
        replace hstep := hide hstep
        replace CI := hide CI
        go_wp2_with (go_at_call 64; (with_reducible refine (CI.out _ hR).mono ?_); rintro e w2 ⟨rfl, rfl⟩)
        go_roundw
        case rel =>
          exact ⟨j + 1, by omega, by go_num, by rw [hstep.out]; exact hO, HR, HN, HS, hb, hsw⟩
        case measure => simp [intOf]; omega
      | false =>
        rw [addN_no hq] at hstep
        simp only [hasN_contains, hq] at CI
        replace hq := hide hq
        replace hstep := hide hstep
        replace CI := hide CI
        obtain ⟨q, hqn⟩ : ∃ q, q = acc.length := ⟨_, rfl⟩
        obtain ⟨cs, hcs⟩ : ∃ cs, cs = acc.map Value.string := ⟨_, rfl⟩
        unfold OwnS at hO
        rw [← hqn, ← hcs] at hO
        rw [← hqn] at hlen hR CI HN ⊢
        replace hqn := hide hqn
        replace hcs := hide hcs
        go_wp2_with (first
          | (go_at_call 64; (with_reducible refine (CI.out _ hR).mono ?_); rintro e w2 ⟨rfl, rfl⟩)
          | (at_builtin; refine wpList_append_lies _ rfl _ _ 27 rfl w.heap.size 9 i0 (.string ⟨#[]⟩) 1 16 Tryd.underlying27 hi hz0 hz1 hz2 rfl (by decide) _ _ _ rfl (hO.alloc _) ⟨wr.heap.size, 0, none⟩ 1 1 [.string zs[j]] rfl rfl (one_new wr _ _) (one_cell _) (by decide) ?c3 ?c4 ?c5 _ rfl ?_))
        case c3 => unfold maxLen; omega
        case c4 => omega
        case c5 => simp; omega
        intro g cap2 w2 hown hgrow hat hlt
        go_wp2_with fail
        go_roundw
        case rel =>
          refine ⟨j + 1, by omega, by go_num, own_step hqn.out hcs.out hown hstep.out, ?_, ?_, rfl, (hb.alloc hsz _).grown hgrow (by simp; omega) fun k hk => (hO.lt k hk).1, ?_⟩
          · exact (HR.out.below (below_new _ _)).grown hgrow fun p hp e => HN.out p hp e.symm
          · intro p hp e
            have e' : g = p.block := by simpa [Value.ownBlock] using e
            rcases hat with h1 | h1
            · exact HN.out p hp (by rw [h1, e'])
            · have := hltd.out p hp
              try simp at h1
              omega
          · have := hgrow.size
            simp at this
            omega
        case measure => simp [intOf]; omega
    · have h4 := hnz.out
      rw [List.take_of_length_le (by omega)] at hO
      go_wp2_with fail
      go_ret
      exact ⟨_, rfl, hO, hb, HS.out⟩
theorem implUniteNames_any (xs ys : List ByteArray) (p p' : Addr) (n cap n' cap' : Nat) (w : World) (h : Rss w xs (some p) n cap) (h' : Rss w ys (some p') n' cap') (hl : xs.length + ys.length ≤ 4194304) :
    Calls Tryd.prog 33 #[.slice (some p) n cap, .slice (some p') n' cap'] w (GivesS w (uniteN xs ys)) := (implUniteNames_nn xs ys p p' n cap n' cap' w h h' hl).mono fun _ _ h => h.gives
theorem OwnS.parts {base g cap : Nat} {w : World} {xs : List ByteArray} (h : OwnS base w (.slice (some ⟨g, 0, none⟩) xs.length cap) xs) : ∃ cur, Blk w g 9 cur ∧ cur.size = cap ∧ xs.length ≤ cap ∧ cap ≤ maxLen := by
  rcases h.2 with ⟨h, _⟩ | ⟨g', cap', cur, hv, hb, hg, hle, hm, hsz, htk⟩
  · cases h
  · injection hv with h1 h2 h3
    injection h1 with h1
    injection h1 with h1
    subst h1 h3
    exact ⟨cur, hg, by omega, hle, hm⟩
theorem own_of_blk {base g cap : Nat} {w : World} {xs : List ByteArray} {cur : Array Value} (hB : Blk w g 9 cur) (hb : base ≤ g) (hle : xs.length ≤ cap) (hm : cap ≤ maxLen) (hs : cur.size = cap)
    (hc : ∀ i (h : i < xs.length), cur[i]? = some (.string xs[i])) : OwnS base w (.slice (some ⟨g, 0, none⟩) xs.length cap) xs := by
  refine ⟨by simp, .inr ⟨g, cap, cur, rfl, hb, hB, hle, hm, by omega, ?_⟩⟩
  refine List.ext_getElem? fun i => ?_
  rw [List.getElem?_take, List.getElem?_map]
  by_cases hi : i < xs.length
  · rw [if_pos (by omega), List.getElem?_eq_getElem hi]
    have := hc i hi
    simpa using this
  · rw [if_neg (by omega), List.getElem?_eq_none (by omega)]
    rfl
theorem deleteNil_Without (bx : Nat) (q : ByteArray → Bool) (w : World)
    (CI : Calls Tryd.prog 84 #[.slice none 0 0, .func (.func 70) #[] #[.pointer (some ⟨bx, 0, none⟩)]] w fun e w' => e = .returned (.int .i64 (fIdx q [])) ∧ w = w') :
    Calls Tryd.prog 68 #[.slice none 0 0, .func (.func 70) #[] #[.pointer (some ⟨bx, 0, none⟩)]] w fun e w' => e = .returned (.slice none 0 0) ∧ w = w' := by
  have e1 : fIdx q [] = -1 := rfl
  rw [e1] at CI
  replace CI := hide CI
  go_enter Tryd.func68, Tryd.ntmps68
  go_wp2_with (go_at_call 84; (with_reducible refine CI.out.mono ?_); rintro e w1 ⟨rfl, rfl⟩)
  go_ret
  exact ⟨rfl, rfl⟩
theorem withoutLit_any (x s : ByteArray) (bx : Nat) (w : World) (hA : w.cell? ⟨bx, 0, none⟩ = some (.string s)) :
    Calls Tryd.prog 70 #[.string x, .pointer (some ⟨bx, 0, none⟩)] w fun e w' => e = .returned (.bool (x.toList == s.toList)) ∧ w = w' := by
  go_enter Tryd.func70, Tryd.ntmps70
  go_wp2_with fail
  go_ret
  exact ⟨rfl, rfl⟩
set_option maxHeartbeats 1600000 in
theorem implWithoutName_any (xs : List ByteArray) (s : ByteArray) (p : Addr) (n cap : Nat) (w : World) (h : Rss w xs (some p) n cap) (hl : xs.length ≤ 2097152) :
    Calls Tryd.prog 40 #[.slice (some p) n cap, .string s] w (GivesS w (withoutN xs s)) := by
  have C1 := hide (cloneS_any xs p n cap _ (h.below (below_new w (.cells #[.string s] 9))) hl)
  have hsz := h.2.2.2.1
  have B0 := Blk.new w 9 #[.string s]
  clear h
  go_enter Tryd.func40, Tryd.ntmps40
  go_wp2_with fail
  refine C1.out.mono ?_
  rintro e w1 ⟨v, rfl, hO, b1⟩
  have k1 := below_of_alloc b1
  have B1 := B0.under b1
  obtain ⟨a, vc, rfl, hR⟩ := hO.read hsz
  by_cases hx0 : ∃ q, a = some q
  · obtain ⟨q, rfl⟩ := hx0
    obtain ⟨g, cur, rfl, hbase, hG, hlen⟩ := hO.free rfl q rfl
    have hne : w.heap.size ≠ g := by simp at hbase; omega
    have hcur : ∀ i (h : i < xs.length), cur[i]? = some (.string xs[i]) := fun i hi => by
      obtain ⟨b, off, hp, -, hc⟩ := hR.get i hi
      injection hp with hp
      injection hp with e1 e2 e3
      subst e1 e2
      rw [← hG.cell]
      simpa using hc
    have CD := hide (deleteFuncS_Without (fun x => x.toList == s.toList) w.heap.size g (fun W => W.cell? ⟨w.heap.size, 0, none⟩ = some (.string s)) (fun W i u hW => by rw [World.cell?_setCell_other _ _ _ _ (by simp [hne])]; exact hW) xs
      (fun x hx W hW => withoutLit_any x s w.heap.size W hW) vc cur w1 (B1.cell 0) hG hcur hlen hR hl)
    go_wp2_with fail
    refine CD.out.mono ?_
    rintro e w2 ⟨rfl, hw2, cur', hG', hs', hc'⟩
    go_wp2_with fail
    go_ret
    obtain ⟨cur2, hG2, p1, p2, p3⟩ := hO.parts
    have hcc : cur2 = cur := by
      have := hG2.symm.trans hG
      injection this with this
      injection this
    refine ⟨_, rfl, own_of_blk hG' (by simp at hbase; omega) (Nat.le_trans (List.length_filter_le _ _) p2) p3 (by rw [hs', ← hcc]; exact p1) hc', k1.trans (hw2.below k1.size (by intro b hb; simp at hb hbase; omega))⟩
  · have ha : a = none := by
      cases a with
      | none => rfl
      | some q => exact absurd ⟨q, rfl⟩ hx0
    subst ha
    have hx : xs = [] := by
      rcases hR.2.2.2.2 with h | ⟨_, _, _, h, _⟩
      · exact h
      · cases h
    subst hx
    obtain rfl : vc = 0 := by
      rcases hO.2 with ⟨h, -⟩ | ⟨g, cap', cur, h, -⟩
      · injection h
      · cases h
    have CI := hide (indexFuncS_Without (fun x => x.toList == s.toList) w.heap.size [] none 0 0 w1 hR (fun x hx => by cases hx))
    go_wp2_with fail
    refine (deleteNil_Without w.heap.size (fun x => x.toList == s.toList) w1 CI.out).mono ?_
    rintro e w2 ⟨rfl, rfl⟩
    go_wp2_with fail
    go_ret
    exact ⟨_, rfl, World.ownsRow_nil _ _ _ _, k1⟩
end Go.Proofs.YtcbgapncmjjmeaaDoor
