/- Queues: what the document says of a most of 2 holds. -/
import Derived.Test.YtdniapakoolbjaaQueG
namespace Go.Proofs.Ytdniapakoolbjaa
open Go.RowKit Rf Mem
attribute [local go_sem ↓] run_max2 run_min2
theorem load_req {W : World} {g : Nat} {x y z : Value} {f : Nat × Nat} (hg : W.heap[g]? = some (.cells #[x, y, z] 41 f)) : (loadVar 41 ⟨g, 0, none⟩).run Try.prog W = .ok (.agg #[x, y, z]) W := by
  have c0 := cell_at hg 0
  have c1 := cell_at hg 1
  have c2 := cell_at hg 2
  simp only [List.getElem?_toArray, List.getElem?_cons_zero, List.getElem?_cons_succ] at c0 c1 c2
  simp [go_sem, c0, c1, c2]
theorem res_req2 {fn : Func} {t u : Tmp} (hf : fn.results = #[.cell t 41, .tmp u]) {tmps : Array Value} {W : World} {g : Nat} {x y z : Value} {f : Nat × Nat} (hs : tmps.getD t undef = .pointer (some ⟨g, 0, none⟩)) (hg : W.heap[g]? = some (.cells #[x, y, z] 41 f)) :
    (results fn tmps).run Try.prog W = .ok (.tuple #[.agg #[x, y, z], tmps.getD u undef]) W := by
  have hs' : tmps[t]?.getD undef = .pointer (some ⟨g, 0, none⟩) := by simpa using hs
  simp [results, hf, hs', asAddr, load_req hg]
set_option maxHeartbeats 1000000 in
theorem FirstR_nil (A : Option Addr) (c : Nat) (w : World) : Calls Try.prog 13 #[.slice A 0 c] w fun e w' => Below w.heap.size w w' ∧ e = .returned (.tuple #[.agg #[.int .i64 0, .int .i64 0, .slice none 0 0], .bool false]) := by
  have hB := below_new w (.cells #[.int .i64 0, .int .i64 0, .slice none 0 0] 41)
  have g0 : (w.alloc (.cells #[.int .i64 0, .int .i64 0, .slice none 0 0] 41)).heap[w.heap.size]? = some (.cells #[.int .i64 0, .int .i64 0, .slice none 0 0] 41 (0, 0)) := new_at rfl _
  have d0 := cell_at g0 0
  have d1 := cell_at g0 1
  have d2 := cell_at g0 2
  have e0 := free_at g0 0
  have e1 := free_at g0 1
  have e2 := free_at g0 2
  go_enter Try.func13, Try.ntmps13
  go_wp2
  exact bodyPost_ret (res_req2 (t := 2) (u := 3) rfl rfl g0) rfl ⟨hB, rfl⟩
theorem Push_g (v u : Value) (most r : Int) (zs xs ys : List Int) (w : World) (hs : SliceAt w 1 v zs.length (nums zs)) (hx : SliceAt w 1 u xs.length (nums xs)) (hl : zs.length ≤ 1000) (hl2 : xs.length ≤ 1000)
    (hr : r = (xs.length : Int) - min xs.length (room most zs.length)) (hy : ys = zs ++ xs.take (room most zs.length)) :
    Calls Try.prog 7 #[.int .i64 most, v, u] w fun e w' => Below w.heap.size w w' ∧ ∃ A c, e = .returned (.tuple #[.slice A ys.length c, .int .i64 r]) ∧ w'.ownsRow w.heap.size 3 1 (.slice A ys.length c) ys.length (nums ys) := by
  subst hr hy
  refine (Push_c v u most zs xs w hs hx hl hl2).mono ?_
  rintro e w' ⟨b, v', ys, r, rfl, rfl, rfl, ho⟩
  obtain ⟨A, c, rfl, _⟩ := (sliceAt_of_own ho).form
  exact ⟨b, A, c, rfl, ho⟩
theorem Ints_g (v u : Value) (a b : List Int) (r : Bool) (w : World) (hr : r = decide (a = b)) (ha : SliceAt w 1 v a.length (nums a)) (hb : SliceAt w 1 u b.length (nums b)) (hl : a.length ≤ 100000) :
    Calls Try.prog 10 #[v, u] w fun e w' => e = .returned (.bool r) ∧ Below w.heap.size w w' := by subst hr; exact Ints_c v u a b w ha hb hl
theorem Keep_g (v u : Value) (zs ys : List Int) (l : List Bool) (w : World) (hy : ys = kept zs l zs.length) (hs : SliceAt w 1 v zs.length (nums zs)) (hu : SliceAt w 1 u l.length (bools l)) (hl : zs.length ≤ 1000) (hl2 : l.length ≤ 1000) :
    Calls Try.prog 12 #[v, u] w fun e w' => Below w.heap.size w w' ∧ ∃ A c, e = .returned (.slice A ys.length c) ∧ w'.ownsRow w.heap.size 3 1 (.slice A ys.length c) ys.length (nums ys) := by
  subst hy
  refine (Keep_c v u zs l w hs hu hl hl2).mono ?_
  rintro e w' ⟨b, v', rfl, ho⟩
  obtain ⟨A, c, rfl, _⟩ := (sliceAt_of_own ho).form
  exact ⟨b, A, c, rfl, ho⟩
theorem First_g (v : Value) (zs : List Int) (x : Int) (b : Bool) (w : World) (hx : x = firstV zs) (hb : b = decide (0 < zs.length)) (hs : SliceAt w 1 v zs.length (nums zs)) :
    Calls Try.prog 8 #[v] w fun e w' => e = .returned (.tuple #[.int .i64 x, .bool b]) ∧ w = w' := by subst hx hb; exact First_c v zs w hs
theorem Parts_g (v : Value) (most : Int) (zs : List Int) (n K : Nat) (w : World) (hn : n = wide most zs.length) (hK : K = chunks n zs.length) (hs : SliceAt w 1 v zs.length (nums zs)) (hl : zs.length ≤ 1000) (hm : most ≤ 9223372036854775807) :
    Calls Try.prog 11 #[v, .int .i64 most] w fun e w' => Below w.heap.size w w' ∧ ∃ A c vs, e = .returned (.slice A K c) ∧ w'.ownsRow w.heap.size 24 1 (.slice A K c) K vs ∧ ∀ i u, vs[i]? = some u → w'.ownsRow w.heap.size 3 1 u (part n zs i).length (nums (part n zs i)) := by
  subst hn hK
  refine (Parts_c v most zs w hs hl hm).mono ?_
  rintro e w' ⟨b, v', rfl, vs, ho, he⟩
  obtain ⟨A, c, rfl, _⟩ := (sliceAt_of_own ho).form
  exact ⟨b, A, c, vs, rfl, ho, he⟩
set_option maxHeartbeats 4000000 in
set_option maxRecDepth 100000 in
theorem wakes_c (w : World) : Calls Try.prog 6 #[] w fun e w' => e = .returned (.bool true) ∧ Below w.heap.size w w' := by
  go_enter Try.func6, Try.ntmps6
  have a0 := below_new w (.cells #[.int .i64 5] 3)
  have a1 := below_new (w.alloc (.cells #[.int .i64 5] 3)) (.cells #[.int .i64 6, .int .i64 7] 3)
  have s5 : SliceAt ((w.alloc (.cells #[.int .i64 5] 3)).alloc (.cells #[.int .i64 6, .int .i64 7] 3)) 1 (.slice (some ⟨w.heap.size, 0, none⟩) 1 1) 1 (nums [5]) := sliceAt_blk (old_at (new_at rfl _) _) rfl (by simp [maxLen])
  have s67 : SliceAt ((w.alloc (.cells #[.int .i64 5] 3)).alloc (.cells #[.int .i64 6, .int .i64 7] 3)) 1 (.slice (some ⟨w.heap.size + 1, 0, none⟩) 2 2) 2 (nums [6, 7]) := sliceAt_blk (new_at (by simp) _) rfl (by simp [maxLen])
  have BB := below_step a0 a1
  go_wp2_with fail
  refine (Push_g _ _ 2 1 [5] [6, 7] [5, 6] _ s5 s67 (by decide) (by decide) (by decide) (by decide)).mono ?_
  rintro e w1 ⟨b1, A1, c1, rfl, o1⟩
  have q := sliceAt_of_own o1
  replace BB := below_step BB b1
  clear a0 a1 s5 s67 b1 o1
  go_wp2_with fail
  refine (First_g _ [5, 6] 5 true _ (by decide) (by decide) q).mono ?_
  rintro e w' ⟨rfl, rfl⟩
  have a2 := below_new w1 (.cells #[] 41)
  go_wp2_with fail
  refine (FirstR_nil _ _ _).mono ?_
  rintro e w2 ⟨b2, rfl⟩
  have a3 := below_new w2 (.cells #[.int .i64 0, .int .i64 0, .slice none 0 0] 41)
  replace b2 := below_step (below_step a2 b2) a3
  replace q := q.later b2
  replace BB := below_step BB b2
  clear a2 a3 b2
  go_wp2_with fail
  generalize w2.alloc (.cells #[.int .i64 0, .int .i64 0, .slice none 0 0] 41) = W2 at *
  refine (Take_yes _ [5, 6] 1 1 6 _ rfl rfl q (by decide)).mono ?_
  rintro e w3 ⟨b3, A3, c3, ys, rfl, hys, o3⟩
  obtain rfl : ys = [5] := hys
  have q3 := sliceAt_of_own o3
  replace q := q.later b3
  replace BB := below_step BB b3
  clear b3 o3
  go_wp2_with fail
  refine (Take_no _ [5, 6] 2 _ q (by decide) (by decide)).mono ?_
  rintro e w4 ⟨b4, A4, c4, rfl, o4⟩
  replace q := q.later b4
  replace q3 := q3.later b4
  replace BB := below_step BB b4
  have a5 := below_new w4 (.cells #[.int .i64 1, .int .i64 2, .int .i64 3] 3)
  have s123 : SliceAt (w4.alloc (.cells #[.int .i64 1, .int .i64 2, .int .i64 3] 3)) 1 (.slice (some ⟨w4.heap.size, 0, none⟩) 3 3) 3 (nums [1, 2, 3]) := sliceAt_blk (new_at rfl _) rfl (by simp [maxLen])
  clear b4 o4
  go_wp2_with fail
  refine (Parts_g _ 2 [1, 2, 3] 2 2 _ (by decide) (by decide) s123 (by decide) (by decide)).mono ?_
  rintro e w5 ⟨b5, A5, c5, vs, rfl, o5, he5⟩
  obtain ⟨u0, u1, rfl⟩ : ∃ u0 u1, vs = [u0, u1] := by
    have := o5.1
    match vs, this with
    | [u0, u1], _ => exact ⟨u0, u1, rfl⟩
  have p0 : SliceAt w5 1 u0 2 (nums [1, 2]) := sliceAt_of_own (he5 0 u0 rfl)
  have p1 : SliceAt w5 1 u1 1 (nums [3]) := sliceAt_of_own (he5 1 u1 rfl)
  have p := sliceAt_of_own o5
  replace b5 := below_step a5 b5
  replace q := q.later b5
  replace q3 := q3.later b5
  replace BB := below_step BB b5
  clear b5 o5 he5 a5 s123
  obtain ⟨A6, c6, rfl, _⟩ := p0.form
  obtain ⟨A7, c7, rfl, _⟩ := p1.form
  have a6 := below_new w5 (.cells #[.int .i64 5, .int .i64 6] 3)
  have s56 : SliceAt (w5.alloc (.cells #[.int .i64 5, .int .i64 6] 3)) 1 (.slice (some ⟨w5.heap.size, 0, none⟩) 2 2) 2 (nums [5, 6]) := sliceAt_blk (new_at rfl _) rfl (by simp [maxLen])
  replace q := q.later a6
  replace q3 := q3.later a6
  replace p0 := p0.later a6
  replace p1 := p1.later a6
  replace p := p.later a6
  replace BB := below_step BB a6
  clear a6
  go_wp2_with fail
  generalize w5.alloc (.cells #[.int .i64 5, .int .i64 6] 3) = W5 at *
  refine (Ints_g _ _ [5, 6] [5, 6] true _ (by decide) q s56 (by decide)).mono ?_
  rintro e w6 ⟨rfl, b6⟩
  have a7 := below_new w6 (.cells #[.int .i64 5] 3)
  have s5 : SliceAt (w6.alloc (.cells #[.int .i64 5] 3)) 1 (.slice (some ⟨w6.heap.size, 0, none⟩) 1 1) 1 (nums [5]) := sliceAt_blk (new_at rfl _) rfl (by simp [maxLen])
  replace b6 := below_step b6 a7
  replace q := q.later b6
  replace q3 := q3.later b6
  replace p0 := p0.later b6
  replace p1 := p1.later b6
  replace p := p.later b6
  replace BB := below_step BB b6
  clear a7 b6 s56
  go_wp2_with fail
  generalize w6.alloc (.cells #[.int .i64 5] 3) = W6 at *
  refine (Ints_g _ _ [5] [5] true _ (by decide) q3 s5 (by decide)).mono ?_
  rintro e w7 ⟨rfl, b7⟩
  have a8 := below_new w7 (.cells #[.bool false, .bool true, .bool true] 4)
  have sb : SliceAt (w7.alloc (.cells #[.bool false, .bool true, .bool true] 4)) 1 (.slice (some ⟨w7.heap.size, 0, none⟩) 3 3) 3 (bools [false, true, true]) := sliceAt_blk (new_at rfl _) rfl (by simp [maxLen])
  replace b7 := below_step b7 a8
  replace q := q.later b7
  replace p0 := p0.later b7
  replace p1 := p1.later b7
  replace p := p.later b7
  replace BB := below_step BB b7
  clear a8 b7 s5 q3
  go_wp2_with fail
  generalize w7.alloc (.cells #[.bool false, .bool true, .bool true] 4) = W7 at *
  refine (Keep_g _ _ [5, 6] [6] [false, true, true] _ (by decide) q sb (by decide) (by decide)).mono ?_
  rintro e w8 ⟨b8, A8, c8, rfl, o8⟩
  have q8 := sliceAt_of_own o8
  have a9 := below_new w8 (.cells #[.int .i64 6] 3)
  have s6 : SliceAt (w8.alloc (.cells #[.int .i64 6] 3)) 1 (.slice (some ⟨w8.heap.size, 0, none⟩) 1 1) 1 (nums [6]) := sliceAt_blk (new_at rfl _) rfl (by simp [maxLen])
  replace q8 := q8.later a9
  replace b8 := below_step b8 a9
  replace p0 := p0.later b8
  replace p1 := p1.later b8
  replace p := p.later b8
  replace BB := below_step BB b8
  clear a9 b8 q sb o8
  go_wp2_with fail
  generalize w8.alloc (.cells #[.int .i64 6] 3) = W8 at *
  refine (Ints_g _ _ [6] [6] true _ (by decide) q8 s6 (by decide)).mono ?_
  rintro e w9 ⟨rfl, b9⟩
  replace p0 := p0.later b9
  replace p1 := p1.later b9
  replace p := p.later b9
  replace BB := below_step BB b9
  obtain ⟨bp, op, cp, hvp, _, _, hbp, hcp⟩ := p.pos (by omega)
  obtain ⟨rfl, _, rfl⟩ := Value.slice.inj hvp
  have r0 := hcp 0 _ rfl
  rw [Nat.add_zero] at r0
  have a10 := below_new w9 (.cells #[.int .i64 1, .int .i64 2] 3)
  have s12 : SliceAt (w9.alloc (.cells #[.int .i64 1, .int .i64 2] 3)) 1 (.slice (some ⟨w9.heap.size, 0, none⟩) 2 2) 2 (nums [1, 2]) := sliceAt_blk (new_at rfl _) rfl (by simp [maxLen])
  replace p0 := p0.later a10
  replace p1 := p1.later a10
  replace p := p.later a10
  replace BB := below_step BB a10
  clear hcp hvp a10 b9 q8 s6
  go_wp2_with fail
  generalize w9.alloc (.cells #[.int .i64 1, .int .i64 2] 3) = W9 at *
  refine (Ints_g _ _ [1, 2] [1, 2] true _ (by decide) p0 s12 (by decide)).mono ?_
  rintro e w10 ⟨rfl, b10⟩
  replace p1 := p1.later b10
  replace p := p.later b10
  replace BB := below_step BB b10
  obtain ⟨bp, op, cp, hvp, _, _, hbp, hcp⟩ := p.pos (by omega)
  obtain ⟨hx, _, rfl⟩ := Value.slice.inj hvp
  obtain ⟨rfl, rfl, _⟩ := Addr.mk.inj (Option.some.inj hx)
  have r1 := hcp 1 _ rfl
  have a11 := below_new w10 (.cells #[.int .i64 3] 3)
  have s3 : SliceAt (w10.alloc (.cells #[.int .i64 3] 3)) 1 (.slice (some ⟨w10.heap.size, 0, none⟩) 1 1) 1 (nums [3]) := sliceAt_blk (new_at rfl _) rfl (by simp [maxLen])
  replace p1 := p1.later a11
  replace BB := below_step BB a11
  clear hcp hvp a11 b10 s12 p0 r0 p
  go_wp2_with fail
  refine (Ints_g _ _ [3] [3] true _ (by decide) p1 s3 (by decide)).mono ?_
  rintro e w11 ⟨rfl, b11⟩
  go_wp2
  go_ret
  exact ⟨rfl, below_step BB b11⟩
end Go.Proofs.Ytdniapakoolbjaa
