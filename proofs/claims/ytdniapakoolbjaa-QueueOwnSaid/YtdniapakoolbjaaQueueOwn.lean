/- QueueOwn: for every argument the statement's Go text returns true and turns nothing that was there. It is proved at every argument, without a condition beyond the row. -/
import Derived.Test.YtdniapakoolbjaaQueW
import Derived.Test.YtdniapakoolbjaaArg
import Derived.Test.YtdniapakoolbjaaFrame
import Derived.Deep.RegionHeld3
import Derived.Deep.DrawnRows
namespace Go.Proofs.Ytdniapakoolbjaa.queueOwn
open Go.ChangeShapes Go.WideShapes Go.ChangeAt Go.RowKit Rf
attribute [local go_sem ↓] run_max2 run_min2
open Mem
/-- the rows: block gr of slices, each of which reads as numbers in blocks that are not old, and none of which lies in gr -/
structure Rws (w W : World) (B gr : Nat) (us : List Value) : Prop where
  at_ : ∃ cur, W.heap[gr]? = some (.cells cur 24 (0, 0)) ∧ ∀ (i : Nat) (u : Value), us[i]? = some u → cur[i]? = some u
  each : ∀ (i : Nat) (u : Value), us[i]? = some u → ∃ A n c, u = .slice A n c ∧ n ≤ 1000 ∧ (n = 0 ∨ ∃ g off cur, A = some ⟨g, off, none⟩ ∧ B ≤ g ∧ W.heap[g]? = some (.cells cur 3 (0, 0)) ∧ ∀ k, k < n → ∃ z, cur[off + k]? = some (.int .i64 z))
  below : Below B w W
theorem Rws.drew {w W : World} {B gr : Nat} {us : List Value} (h : Rws w W B gr us) : Rws w W.drew B gr us := ⟨h.at_, h.each, h.below.drew⟩
theorem Rws.set {w W : World} {B gr : Nat} {us : List Value} (h : Rws w W B gr us) {g : Nat} (hB : B ≤ g) {cur : Array Value} (hg : W.heap[g]? = some (.cells cur 3 (0, 0))) (o : Nat) (z : Int) : Rws w (W.setCell ⟨g, o, none⟩ (.int .i64 z)) B gr us := by
  obtain ⟨⟨cr, h1, h2⟩, h3, h4⟩ := h
  have hne : gr ≠ g := by rintro rfl; rw [h1] at hg; simp at hg
  refine ⟨⟨cr, set_far h1 hne _, h2⟩, fun i u hu => ?_, h4.setCell hB _⟩
  obtain ⟨A, n, c, rfl, hn, hcase⟩ := h3 i u hu
  refine ⟨A, n, c, rfl, hn, hcase.imp id ?_⟩
  rintro ⟨g', off, cur', rfl, hB', hg', hk⟩
  by_cases e : g' = g
  · subst e
    rw [hg] at hg'
    obtain rfl : cur = cur' := by simpa using hg'
    refine ⟨g', off, _, rfl, hB', set_at hg o _, fun k hkn => ?_⟩
    obtain ⟨y, hy⟩ := hk k hkn
    by_cases e2 : o = off + k
    · subst e2
      exact ⟨z, by rw [Array.getElem?_setIfInBounds_self]; rw [if_pos (Array.getElem?_eq_some_iff.1 hy).1]⟩
    · exact ⟨y, by rw [Array.getElem?_setIfInBounds_ne e2]; exact hy⟩
  · exact ⟨g', off, cur', rfl, hB', set_far hg' e _, hk⟩
theorem own_rws {W : World} {B base : Nat} {v : Value} {ys : List Int} (h : W.ownsRow base 3 1 v ys.length (nums ys)) (hB : B ≤ base) (hl : ys.length ≤ 1000) :
    ∃ A n c, v = .slice A n c ∧ n ≤ 1000 ∧ (n = 0 ∨ ∃ g off cur, A = some ⟨g, off, none⟩ ∧ B ≤ g ∧ W.heap[g]? = some (.cells cur 3 (0, 0)) ∧ ∀ k, k < n → ∃ z, cur[off + k]? = some (.int .i64 z)) := by
  obtain ⟨_, h⟩ := h
  rcases h with ⟨rfl, h0⟩ | ⟨g, cap, cur, rfl, hb, hg, h1, h2, h3, h4⟩
  · exact ⟨none, 0, 0, rfl, by omega, .inl rfl⟩
  · refine ⟨_, _, _, rfl, hl, .inr ⟨g, 0, cur, rfl, by omega, hg, fun k hk => ⟨ys[k], ?_⟩⟩⟩
    have e : (cur.toList.take (ys.length * 1))[k]? = (nums ys)[k]? := by rw [h4]
    rw [List.getElem?_take, if_pos (by omega), Array.getElem?_toList, nums_get hk] at e
    rw [Nat.zero_add]; exact e
theorem own_below {W W' : World} {base e sz n : Nat} {v : Value} {xs : List Value} (h : W.ownsRow base e sz v n xs) (hb : Below W.heap.size W W') : W'.ownsRow base e sz v n xs :=
  own_later h (fun k hk => hb.block k (own_base h hk).2)
theorem Take_any (v : Value) (zs : List Int) (at_ : Int) (w : World) (hs : SliceAt w 1 v zs.length (nums zs)) (hl : zs.length ≤ 1000) :
    Calls Try.prog 9 #[v, .int .i64 at_] w fun e w' => Below w.heap.size w w' ∧ ∃ A c ys y b, e = .returned (.tuple #[.slice A (ys : List Int).length c, .int .i64 y, .bool b]) ∧ ys.length ≤ zs.length ∧ w'.ownsRow w.heap.size 3 1 (.slice A ys.length c) ys.length (nums ys) := by
  by_cases h : at_ < 0 ∨ (zs.length : Int) ≤ at_
  · refine (Take_no v zs at_ w hs hl h).mono ?_
    rintro e w' ⟨b, A, c, rfl, o⟩
    exact ⟨b, A, c, zs, 0, false, rfl, Nat.le_refl _, o⟩
  · have hk : at_.toNat < zs.length := by omega
    refine (Take_yes v zs at_.toNat at_ zs[at_.toNat] w (by omega) (List.getElem?_eq_getElem hk) hs hl).mono ?_
    rintro e w' ⟨b, A, c, ys, rfl, hy, o⟩
    exact ⟨b, A, c, ys, _, true, rfl, by rw [hy]; simp; omega, o⟩
theorem Push_any (v u : Value) (most : Int) (zs xs : List Int) (w : World) (hs : SliceAt w 1 v zs.length (nums zs)) (hx : SliceAt w 1 u xs.length (nums xs)) (hl : zs.length ≤ 40) (hl2 : xs.length ≤ 40) :
    Calls Try.prog 7 #[.int .i64 most, v, u] w fun e w' => Below w.heap.size w w' ∧ ∃ A c ys r, e = .returned (.tuple #[.slice A (ys : List Int).length c, .int .i64 r]) ∧ ys.length ≤ 80 ∧ w'.ownsRow w.heap.size 3 1 (.slice A ys.length c) ys.length (nums ys) := by
  refine (Push_c v u most zs xs w hs hx (by omega) (by omega)).mono ?_
  rintro e w' ⟨b, v', ys, r, rfl, _, rfl, o⟩
  have hl : (zs ++ xs.take (room most zs.length)).length ≤ 80 := by rw [List.length_append, List.length_take]; omega
  obtain ⟨A, c, rfl, _⟩ := (sliceAt_of_own o).form
  exact ⟨b, A, c, _, r, rfl, hl, o⟩
theorem Keep_any (v u : Value) (zs : List Int) (l : List Bool) (w : World) (hs : SliceAt w 1 v zs.length (nums zs)) (hu : SliceAt w 1 u l.length (bools l)) (hl : zs.length ≤ 40) (hl2 : l.length ≤ 1000) :
    Calls Try.prog 12 #[v, u] w fun e w' => Below w.heap.size w w' ∧ ∃ A c ys, e = .returned (.slice A (ys : List Int).length c) ∧ ys.length ≤ 40 ∧ w'.ownsRow w.heap.size 3 1 (.slice A ys.length c) ys.length (nums ys) := by
  refine (Keep_c v u zs l w hs hu (by omega) hl2).mono ?_
  rintro e w' ⟨b, v', rfl, o⟩
  have hl : (kept zs l zs.length).length ≤ 40 := by have := kept_len zs l zs.length; omega
  obtain ⟨A, c, rfl, _⟩ := (sliceAt_of_own o).form
  exact ⟨b, A, c, _, rfl, hl, o⟩
set_option maxHeartbeats 4000000 in
set_option maxRecDepth 100000 in
theorem walk (v u : Value) (zs xs : List Int) (at_ most : Int) (w : World) (hs : SliceAt w 1 v zs.length (nums zs)) (hx : SliceAt w 1 u xs.length (nums xs)) (hm2 : most ≤ 9223372036854775807) :
    Calls Try.prog 5 #[v, u, .int .i64 at_, .int .i64 most] w fun e w' => e = .returned (.bool true) ∧ Below w.heap.size w w' := by
  obtain ⟨A, c, rfl, _⟩ := hs.form
  obtain ⟨A', c', rfl, _⟩ := hx.form
  by_cases h1 : zs.length ≤ 40
  · by_cases h2 : xs.length ≤ 40
    · have q1 : decide ((40 : Int) < (zs.length : Int)) = false := decide_eq_false (by omega)
      have q2 : decide ((40 : Int) < (xs.length : Int)) = false := decide_eq_false (by omega)
      obtain ⟨i0, hi, hz0, hz1, hz2⟩ := info_parts info_int
      obtain ⟨j0, ji, jz0, jz1, jz2⟩ := info_parts info_sl
      have a0 := below_new w (.cells #[] 3)
      have o0 := own_empty w 3 1
      have s0 := hs.later a0
      go_enter Try.func5, Try.ntmps5
      go_wp2_with (at_builtin; first
        | (have pp := o1; have a2 := below_new w1 (.cells #[] 3); have o2 := own_empty w1 3 1; have s2 := hx.later (below_step b1 a2); refine wpList_append_src (by rfl) (.tmp 32) (.tmp 33) _ (by rfl) w1.heap.size 3 i0 _ 1 8 Try.underlying24 hi hz0 hz1 hz2 rfl (by omega) (.slice (some ⟨w1.heap.size, 0, none⟩) 0 0) 0 [] (by rfl) o2 (.slice A' xs.length c') xs.length (nums xs) (by rfl) s2 (nums_one _) (by simp only [maxLen]; omega) (by omega) (by simp) ?_; intro v2 w2 o3 g3 hv3; rw [Nat.zero_add, List.nil_append] at o3; have b3 := below_own a2 g3 (by simp) (by intro g hg; cases hg; exact Nat.le_refl _); obtain ⟨A2, c2, rfl, _, _⟩ := (sliceAt_of_own o3).form)
        | (refine wpList_append_src (by rfl) (.tmp 29) (.tmp 30) _ (by rfl) w.heap.size 3 i0 _ 1 8 Try.underlying24 hi hz0 hz1 hz2 rfl (by omega) (.slice (some ⟨w.heap.size, 0, none⟩) 0 0) 0 [] (by rfl) o0 (.slice A zs.length c) zs.length (nums zs) (by rfl) s0 (nums_one _) (by simp only [maxLen]; omega) (by omega) (by simp) ?_; intro v1 w1 o1 g1 hv1; rw [Nat.zero_add, List.nil_append] at o1; have b1 := below_own a0 g1 (by simp) (by intro g hg; cases hg; exact Nat.le_refl _); obtain ⟨A1, c1, rfl, _, _⟩ := (sliceAt_of_own o1).form))
      have BW := below_step b1 b3
      have Q := hs.later BW
      have X := hx.later BW
      have WAS := (sliceAt_of_own o1).later b3
      have THEN := sliceAt_of_own o3
      obtain ⟨B, hB⟩ : ∃ B, w2.heap.size = B := ⟨_, rfl⟩
      have hB0 : w.heap.size ≤ B := hB ▸ BW.size
      clear a0 o0 s0 o1 g1 hv1 b1 a2 o2 s2 o3 g3 hv3 b3
      refine (Push_any _ _ most zs xs _ Q X h1 h2).mono ?_
      rintro e w3 ⟨b3, A3, c3, ya, ra, rfl, la, oa⟩
      have sz3 := b3.size
      go_wp2_with fail
      refine (Take_any _ zs at_ _ (Q.later b3) (by omega)).mono ?_
      rintro e w4 ⟨b4, A4, c4, yb, rb, bb, rfl, lb, ob⟩
      have sz4 := b4.size
      replace oa := own_below oa b4
      replace b3 := below_step b3 b4
      have a5 := below_new w4 (.cells #[.bool true, .bool true, .bool true] 4)
      have sb : SliceAt (w4.alloc (.cells #[.bool true, .bool true, .bool true] 4)) 1 (.slice (some ⟨w4.heap.size, 0, none⟩) 3 3) 3 (bools [true, true, true]) := sliceAt_blk (new_at rfl _) rfl (by simp [maxLen])
      go_wp2_with fail
      refine (Keep_any _ _ zs [true, true, true] _ (Q.later (below_step b3 a5)) sb h1 (by simp)).mono ?_
      rintro e w5 ⟨b5, A5, c5, yc, rfl, lc, oc⟩
      have sz5 := b5.size
      simp only [World.size_alloc] at sz5
      replace oc := own_base_le oc (show w4.heap.size ≤ _ by simp)
      replace b5 := below_step a5 b5
      replace oa := own_below oa b5
      replace ob := own_below ob b5
      replace b3 := below_step b3 b5
      obtain ⟨n, hn⟩ : ∃ n, wide most zs.length = n := ⟨_, rfl⟩
      obtain ⟨K, hK⟩ : ∃ K, chunks n zs.length = K := ⟨_, rfl⟩
      have hn0 : 0 < n := by rw [← hn]; unfold wide; split <;> omega
      have hK40 : K ≤ 40 := by
        rcases Nat.lt_or_ge 40 K with h | h
        · have := (chunks_lt (len := zs.length) hn0).1 (hK ▸ h)
          have : 40 ≤ 40 * n := Nat.le_mul_of_pos_right 40 hn0
          omega
        · exact h
      have HN := Lib.hid hn.symm
      have HK := Lib.hid hK.symm
      clear a5 sb b4 b5 hn hK hn0
      go_wp2_with fail
      refine (Parts_g _ most zs n K _ HN.out HK.out (Q.later b3) (by omega) hm2).mono ?_
      rintro e w6 ⟨b6, A6, c6, vs, rfl, op, he⟩
      have sz6 := b6.size
      replace oa := own_below oa b6
      replace ob := own_below ob b6
      replace oc := own_below oc b6
      replace b3 := below_step b3 b6
      have a7 := below_new w6 (.cells #[.slice A3 ya.length c3, .slice A4 yb.length c4, .slice A5 yc.length c5] 24)
      have op7 := own_below op a7
      have s7 : SliceAt (w6.alloc (.cells #[.slice A3 ya.length c3, .slice A4 yb.length c4, .slice A5 yc.length c5] 24)) 1 (.slice (some ⟨w6.heap.size, 0, none⟩) 3 3) 3 [.slice A3 ya.length c3, .slice A4 yb.length c4, .slice A5 yc.length c5] := sliceAt_blk (new_at rfl _) rfl (by simp [maxLen])
      clear b6
      go_wp2_with (at_builtin; refine wpList_append_src (by rfl) (.tmp 54) (.tmp 58) _ (by rfl) w5.heap.size 24 j0 _ 1 24 Try.underlying35 ji jz0 jz1 jz2 rfl (by omega) (.slice A6 K c6) K vs (by rfl) op7 (.slice (some ⟨w6.heap.size, 0, none⟩) 3 3) 3 [.slice A3 ya.length c3, .slice A4 yb.length c4, .slice A5 yc.length c5] (by rfl) s7 (by intro u hu; simp at hu; rcases hu with rfl | rfl | rfl <;> rfl) (by simp only [maxLen]; omega) (by omega) (by simp; omega) ?_; intro v8 w8 o8 g8 hv8; obtain ⟨A8, c8, rfl, _, _⟩ := (sliceAt_of_own o8).form)
      have hvl : vs.length = K := by have := op.1; omega
      have b8 : Below B w2 w8 := hB ▸ (below_own (below_step b3 a7) g8 (by simp; omega) (fun g hg => by have := (own_base op hg).1; omega))
      have keep8 : ∀ {e : TypeId} {bs m : Nat} {v : Value} {cs : List Value}, w6.ownsRow bs e 1 v m cs → e ≠ 24 → w8.ownsRow bs e 1 v m cs := fun {e bs m v cs} h hne => by
        refine own_later h (fun k hk => (g8.block k (by have := (own_base h hk).2; simp; omega) (fun e2 => ?_)).trans (Below.heap_alloc _ _ k (own_base h hk).2))
        obtain ⟨x1, y1⟩ := own_type h hk
        obtain ⟨x2, y2⟩ := own_type op e2.symm
        rw [y1] at y2
        simp at y2
        exact hne y2.2
      have R : ∃ gr, A8 = some ⟨gr, 0, none⟩ ∧ Rws w2 w8 B gr (vs ++ [.slice A3 ya.length c3, .slice A4 yb.length c4, .slice A5 yc.length c5]) := by
        have hB3 : B ≤ w3.heap.size := by omega
        obtain ⟨_, hc⟩ := o8
        rcases hc with ⟨_, h0⟩ | ⟨gr, cap, cur, hv, hbb, hg, p1, p2, p3, p4⟩
        · omega
        obtain ⟨rfl, _, _⟩ := Value.slice.inj hv
        refine ⟨gr, rfl, ⟨cur, hg, fun i u hu => ?_⟩, fun i u hu => ?_, b8⟩
        · rw [← p4, List.getElem?_take] at hu
          split at hu
          · simpa using hu
          · cases hu
        · by_cases hi : i < vs.length
          · rw [List.getElem?_append_left hi] at hu
            refine own_rws (keep8 (he i u hu) (by decide)) (by omega) ?_
            unfold part; simp; omega
          · rw [List.getElem?_append_right (by omega)] at hu
            obtain ⟨j, hj⟩ : ∃ j, i - vs.length = j := ⟨_, rfl⟩
            rw [hj] at hu
            match j, hu with
            | 0, hu => obtain rfl := Option.some.inj hu; exact own_rws (keep8 oa (by decide)) (by omega) (by omega)
            | 1, hu => obtain rfl := Option.some.inj hu; exact own_rws (keep8 ob (by decide)) (by omega) (by omega)
            | 2, hu => obtain rfl := Option.some.inj hu; exact own_rws (keep8 oc (by decide)) (by omega) (by omega)
            | j + 3, hu => simp at hu
      obtain ⟨gr, rfl, R⟩ := R
      have hul : (vs ++ [Value.slice A3 ya.length c3, Value.slice A4 yb.length c4, Value.slice A5 yc.length c5]).length = K + 3 := by simp [hvl]
      have HUL := Lib.hid hul
      clear o8 g8 hv8 op op7 s7 a7 he oa ob oc b3 b8 keep8 hul hvl la lb lc
      generalize vs ++ [Value.slice A3 ya.length c3, Value.slice A4 yb.length c4, Value.slice A5 yc.length c5] = us at *
      obtain ⟨N, hN⟩ : ∃ N, K + 3 = N := ⟨_, rfl⟩
      have hN43 : N ≤ 43 := by omega
      have HNN := Lib.hid hN
      rw [hN]
      clear hN
      go_loopw [18] (fun i wr => ∃ k : Nat, k ≤ N ∧ i = .int .i64 k ∧ Rws w2 wr B gr us) (fun i _ => N - (intOf i).toNat)
      case atStart => exact ⟨0, Nat.zero_le _, rfl, R⟩
      case round =>
        obtain ⟨k, hk, rfl, Rk⟩ := hrel
        clear R
        by_cases hlt : k < N
        · have hku : k < us.length := by have := HUL.out; have := HNN.out; omega
          have hu : us[k]? = some us[k] := List.getElem?_eq_getElem hku
          obtain ⟨A9, n9, c9, e9, hn9, _⟩ := Rk.each k _ hu
          rw [e9] at hu
          have HU := Lib.hid hu
          have hcr : ∀ W : World, Rws w2 W B gr us → W.cell? ⟨gr, k, none⟩ = some (.slice A9 n9 c9) := fun W r => by
            obtain ⟨⟨cur, g1, g2⟩, _, _⟩ := r
            rw [cell_at g1]; exact g2 k _ HU.out
          have HCR := Lib.hid hcr
          have i1 : (k : Int) < (N : Int) := by omega
          clear e9 hu hcr
          go_wp2
          go_loopw [19] (fun j wr' => ∃ q : Nat, q ≤ n9 ∧ j = .int .i64 q ∧ Rws w2 wr' B gr us) (fun j _ => n9 - (intOf j).toNat)
          case atStart => exact ⟨0, Nat.zero_le _, rfl, Rk⟩
          case round =>
            obtain ⟨q, hq, rfl, Rq⟩ := hrel
            have r0 := HCR.out _ Rq
            clear Rk
            by_cases hlq : q < n9
            · obtain ⟨A', n', c', e', _, hcase⟩ := Rq.each k _ HU.out
              obtain ⟨rfl, rfl, rfl⟩ := Value.slice.inj e'
              obtain ⟨g, off, cur, rfl, hBg, hg, hz⟩ := hcase.resolve_left (by omega)
              obtain ⟨z, hzq⟩ := hz q hlq
              have x0 : wr.cell? ⟨g, off + q, none⟩ = some (.int .i64 z) := by rw [cell_at hg]; exact hzq
              have f0 := free_at hg (off + q)
              have i2 : (q : Int) < (n9 : Int) := by omega
              have i0 : (0 : Int) ≤ (q : Int) := by omega
              have R2 := (Rq.set hBg (cur := cur) hg (off + q) (wrap64 (z + 1))).drew
              have HR2 := Lib.hid R2
              clear R2 hz hzq hcase e' hg
              go_wp2_with fail
              go_still_tail 13, (by kernel_rfl)
              change wpList _ _ _ _ _ wr.drew
              go_wp2
              go_roundw
              case rel => exact ⟨q + 1, by omega, by go_num, HR2.out⟩
              case measure => simp [intOf]; omega
            · obtain rfl : q = n9 := by omega
              go_wp2
              go_roundw
              case rel => exact ⟨k + 1, by omega, by go_num, Rq⟩
              case measure => simp [intOf]; omega
        · obtain rfl : k = N := by omega
          have bF := Rk.below
          have Q2 := Q.later (hB.symm ▸ bF)
          go_wp2_with fail
          refine (Ints_g _ _ zs zs true _ (by simp) (Q.later (hB.symm ▸ bF)) (WAS.later (hB.symm ▸ bF)) (by omega)).mono ?_
          rintro e w9 ⟨rfl, b9⟩
          have bG := bF.trans (b9.mono (by have := bF.size; omega))
          go_wp2_with fail
          refine (Ints_g _ _ xs xs true _ (by simp) (X.later (hB.symm ▸ bG)) (THEN.later (hB.symm ▸ bG)) (by omega)).mono ?_
          rintro e w10 ⟨rfl, b10⟩
          go_wp2_with fail
          refine (wakes_c _).mono ?_
          rintro e w11 ⟨rfl, b11⟩
          go_wp2
          go_ret
          exact ⟨rfl, below_step (below_step (BW.trans (bG.mono hB0)) b10) b11⟩
    · have q1 : decide ((40 : Int) < (zs.length : Int)) = false := decide_eq_false (by omega)
      have q2 : decide ((40 : Int) < (xs.length : Int)) = true := decide_eq_true (by omega)
      go_enter Try.func5, Try.ntmps5
      go_wp2_with fail
      refine (wakes_c _).mono ?_
      rintro e w9 ⟨rfl, b9⟩
      go_wp2
      go_ret
      exact ⟨rfl, b9⟩
  · have q1 : decide ((40 : Int) < (zs.length : Int)) = true := decide_eq_true (by omega)
    go_enter Try.func5, Try.ntmps5
    go_wp2_with fail
    refine (wakes_c _).mono ?_
    rintro e w9 ⟨rfl, b9⟩
    go_wp2
    go_ret
    exact ⟨rfl, b9⟩

theorem own : ownKnob Try.prog.godebug = none := by kernel_rfl
theorem laidOut : laidOutB Try.prog = true := by kernel_rfl
noncomputable def wit (os : Os) : World := World.holding Try.prog os ⟨#[], #[], []⟩
set_option maxRecDepth 100000 in
theorem lifted (os : Os) (started : os.Started) (H : Type) (enc : TypeId × Value → H) (F : Stop.Interp) :
    ReturnsInHanded {} Try.checked os 5 .any ((OpenSpec.ofChange Rows.queueOwnSpec).preRow enc Try.prog Try.f5 Rows.queueOwnRow.domain false Rows.queueOwnRow.laid) (((OpenSpec.ofChange Rows.queueOwnSpec).at F).post enc Try.prog Try.f5 false true false false) := by
  obtain ⟨x, hx⟩ : ∃ x, DataW.whole enc Try.prog ((wit os).forCall (fun _ _ => 0) ⟨#[], #[.slice none 0 0, .slice none 0 0, .int .i64 0, .int .i64 0], []⟩).memory Try.f5.params.toList Rows.queueOwnSpec.vars false (#[.slice none 0 0, .slice none 0 0, .int .i64 0, .int .i64 0] : Array Value).toList 8 = some x := Option.isSome_iff_exists.1 (by kernel_rfl)
  refine Fr.lift (C := Try.checked) (s := OpenSpec.ofChange Rows.queueOwnSpec) own started (by kernel_rfl) Try.func5
    (witness_row_at (enc := enc) (C := Try.checked) false (wit os) #[.slice none 0 0, .slice none 0 0, .int .i64 0, .int .i64 0] rfl (by kernel_rfl) (by kernel_rfl) (by kernel_rfl)
      (OpenSpec.preRow_of_cond 8 hx rfl (fun k hk => by cases hk) (by kernel_rfl) (laidMet_of_run' 8 (by kernel_rfl) (by kernel_rfl))))
    laidOut (by kernel_rfl) rfl Try.underlying4 rfl rfl ?_ ?_
  · intro ds hds
    match ds, hds with
    | [_, _, _, _], _ => rfl
  · intro W base args ds before hval hA hlt _ hz hL
    rw [Try.params5] at hA hval
    obtain ⟨v0, vs0, d0, ds0, p0, q0, hargs, rfl, rfl, h0, r0⟩ := trodAll_cons hA
    obtain ⟨v1, vs1, d1, ds1, p1, q1, rfl, rfl, rfl, h1, r1⟩ := trodAll_cons r0
    obtain ⟨v2, vs2, d2, ds2, p2, q2, rfl, rfl, rfl, h2, r2⟩ := trodAll_cons r1
    obtain ⟨v3, vs3, d3, ds3, p3, q3, rfl, rfl, rfl, h3, r3⟩ := trodAll_cons r2
    obtain ⟨rfl, rfl, rfl⟩ := trodAll_nil r3
    obtain rfl : args = #[v0, v1, v2, v3] := by cases args; simp_all
    obtain ⟨zs, hzs, _⟩ := Mem.open_ints_arg Try.underlying24 Try.underlying3 (by kernel_rfl) (hval 0 _ v0 rfl rfl) h0
    obtain ⟨xs, hxs, _⟩ := Mem.open_ints_arg Try.underlying24 Try.underlying3 (by kernel_rfl) (hval 1 _ v1 rfl rfl) h1
    obtain ⟨a2, rfl, rfl, rfl, w2⟩ := open_int Try.underlying3 (hval 2 _ v2 rfl rfl) h2
    obtain ⟨a3, rfl, rfl, rfl, w3⟩ := open_int Try.underlying3 (hval 3 _ v3 rfl rfl) h3
    exact walk v0 v1 zs xs a2 a3 W hzs hxs (i64_bounds w3).2

theorem said : Rows.QueueOwnSaid :=
  OpenClaim.holds_of_cond 5 Try.f5 rfl rfl rfl rfl rfl rfl rfl ⟨rfl, rfl, rfl, rfl, rfl⟩ rfl rfl rfl rfl rfl (by kernel_rfl) Try.func5 (by kernel_rfl)
    (of_decide_eq_true (by kernel_rfl)) (by unfold Func.isWrapper; first | (rw [if_pos (by decide +kernel)]; kernel_rfl) | (rw [if_neg (by decide +kernel)]; exact ⟨rfl, rfl⟩))
    (fun os started H enc _ F => by rw [OpenClaim.pre_eq_preRow]; exact lifted os started H enc F)
#print axioms said
end Go.Proofs.Ytdniapakoolbjaa.queueOwn
