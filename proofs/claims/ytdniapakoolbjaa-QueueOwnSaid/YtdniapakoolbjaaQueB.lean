/- Queues of numbers: contracts of push and Push. Nothing that was there is turned. -/
import Derived.Test.YtdniapakoolbjaaQueA
namespace Go.Proofs.Ytdniapakoolbjaa
open Go.RowKit Rf Mem
attribute [local go_sem ↓] run_max2 run_min2
theorem wp_append_src {P : Program} {w : World} {o : Oper} {a : Act} {K : Act → World → Prop} {Q : Exit → Act → World → Prop} (s x : Operand) (t : TypeId)
    (ho : o.op = .call { callee := .builtin .append, args := #[s, x], argTypes := #[t, t] })
    (base : Nat) (e : TypeId) (i : TypeInfo) (z : Value) (size byt : Nat) (ht : P.underlying t = some (.slice e)) (hi : P.info? e = some i) (hz : i.zero = some z)
    (hsize : i.size = size) (hby : i.bytes = byt) (hzs : z.cells.size = size) (hsz : 0 < size)
    (v : Value) (n : Nat) (xs : List Value) (hs : a.eval s = v) (hown : w.ownsRow base e size v n xs) (src : Value) (m : Nat) (news : List Value) (hx : a.eval x = src) (hsrc : SliceAt w size src m news) (h1 : ∀ u ∈ news, u.oneCell' = true)
    (h63 : n + m ≤ maxLen) (hbytes : (n + m) * byt ≤ 140737488355328) (hbase : base ≤ w.heap.size)
    (h : ∀ v' w', w'.ownsRow base e size v' (n + m) (xs ++ news) → w.grownBy w' v.ownBlock → (v'.ownBlock = v.ownBlock ∨ v'.ownBlock = some w.heap.size) → K (a.put o.dst v') w') :
    o.wp P a w K Q := by
  obtain ⟨v', w', hr, h2, h3, h4⟩ := run_append_src (P := P) w base t o.type e i z size byt ht hi hz hsize hby hzs hsz v n xs hown src m news hsrc h1 h63 hbytes hbase
  unfold Oper.wp execOp
  simp only [ho, resolve, invoke, builtin, Sem.run_bind, Sem.run_pure, Result.andThen_ok, List.map_toArray, List.map_cons, List.map_nil, hs, hx, hr]
  exact h v' w' h2 h3 h4
theorem own_set {w : World} {base e sz n : Nat} {v : Value} {xs : List Value} (h : w.ownsRow base e sz v n xs) {p : Addr} (hp : v.ownBlock ≠ some p.block) (u : Value) : (w.setCell p u).ownsRow base e sz v n xs :=
  own_later h (fun g hg => Below.heap_setCell w p u g (fun e => hp (e ▸ hg)))
theorem own_base_le {w : World} {base base' e sz n : Nat} {v : Value} {xs : List Value} (h : w.ownsRow base e sz v n xs) (hb : base' ≤ base) : w.ownsRow base' e sz v n xs :=
  ⟨h.1, h.2.imp id (fun ⟨g, cap, cur, q1, q2, q3⟩ => ⟨g, cap, cur, q1, by omega, q3⟩)⟩
theorem own_drew {w : World} {base e sz n : Nat} {v : Value} {xs : List Value} (h : w.ownsRow base e sz v n xs) (m : Nat) : (w.drewN m).ownsRow base e sz v n xs := own_later h (fun _ _ => rfl)
/-- block gl is a line: a row of the call's own, and its most -/
structure Line (w W : World) (gl : Nat) (v : Value) (zs : List Int) (most : Int) : Prop where
  at_ : W.heap[gl]? = some (.cells #[v, .int .i64 most] 48 (0, 0))
  own : W.ownsRow w.heap.size 3 1 v zs.length (nums zs)
  ne : v.ownBlock ≠ some gl
  lt : w.heap.size ≤ gl
  below : Below w.heap.size w W
theorem Line.drewN {w W : World} {gl : Nat} {v : Value} {zs : List Int} {most : Int} (h : Line w W gl v zs most) (m : Nat) : Line w (W.drewN m) gl v zs most := ⟨h.at_, own_drew h.own m, h.ne, h.lt, below_drewN h.below m⟩
theorem push_no (w W : World) (gl : Nat) (v : Value) (zs : List Int) (most x : Int) (h : Line w W gl v zs most) (hm : ¬ (zs.length : Int) < most) :
    Calls Try.prog 15 #[.pointer (some ⟨gl, 0, none⟩), .int .i64 x] W fun e W' => e = .returned (.bool false) ∧ Line w W' gl v zs most := by
  have d0 := cell_at h.at_ 0
  have d1 := cell_at h.at_ 1
  obtain ⟨A, c, rfl, _⟩ := (sliceAt_of_own h.own).form
  have q : decide (most ≤ (zs.length : Int)) = true := decide_eq_true (by omega)
  go_enter Try.func15, Try.ntmps15
  go_wp2_with fail
  go_quiet (fail)
  go_wp2
  go_ret
  exact ⟨rfl, h.drewN _⟩
theorem line_ne {v v' : Value} {gl n : Nat} (h : v'.ownBlock = v.ownBlock ∨ v'.ownBlock = some n) (hv : v.ownBlock ≠ some gl) (hn : gl < n) : v'.ownBlock ≠ some gl := by
  rcases h with e | e
  · rw [e]; exact hv
  · rw [e]; intro e2; have := Option.some.inj e2; omega
set_option maxHeartbeats 400000 in
theorem push_yes (w W : World) (gl : Nat) (v : Value) (zs : List Int) (most x : Int) (h : Line w W gl v zs most) (hm : (zs.length : Int) < most) (hl : zs.length ≤ 100000) :
    Calls Try.prog 15 #[.pointer (some ⟨gl, 0, none⟩), .int .i64 x] W fun e W' => e = .returned (.bool true) ∧ ∃ v', Line w W' gl v' (zs ++ [x]) most := by
  obtain ⟨i0, hi, hz0, hz1, hz2⟩ := info_parts info_int
  have d0 := cell_at h.at_ 0
  have d1 := cell_at h.at_ 1
  obtain ⟨A, c, rfl, _⟩ := (sliceAt_of_own h.own).form
  have q : decide (most ≤ (zs.length : Int)) = false := decide_eq_false (by omega)
  go_enter Try.func15, Try.ntmps15
  go_wp2_with fail
  go_quiet (fail)
  replace h := h.drewN nq
  clear d0 d1
  generalize W.drewN nq = W2 at *
  have d0 := cell_at h.at_ 0
  have d1 := cell_at h.at_ 1
  have bA := below_new W2 (.cells #[.int .i64 x] 3)
  have oA := own_later h.own (w' := W2.alloc (.cells #[.int .i64 x] 3)) (fun g hg => Below.heap_alloc _ _ g (own_base h.own hg).2)
  have aA := old_at h.at_ (.cells #[.int .i64 x] 3)
  have sA : SliceAt (W2.alloc (.cells #[.int .i64 x] 3)) 1 (.slice (some ⟨W2.heap.size, 0, none⟩) 1 1) 1 (nums [x]) := sliceAt_blk (new_at rfl _) rfl (by simp [maxLen])
  go_wp2_with (at_builtin; refine wpList_append_src (by rfl) (.tmp 19) (.tmp 21) _ (by rfl) w.heap.size 3 i0 _ 1 8 Try.underlying24 hi hz0 hz1 hz2 rfl (by omega) (.slice A zs.length c) zs.length (nums zs) (by rfl) oA (.slice (some ⟨W2.heap.size, 0, none⟩) 1 1) 1 (nums [x]) (by rfl) sA (nums_one _) (by simp only [maxLen]; omega) (by omega) (by have := h.below.size; simp; omega) ?_; intro v1 W3 ho3 hg3 hv3; have aB := (hg3.block gl (by have := (Array.getElem?_eq_some_iff.1 h.at_).1; simp; omega) (fun e => h.ne e.symm)).trans aA; have d2 := cell_at aB 0; have e2 := free_at aB 0; have nv := line_ne hv3 h.ne (by have := (Array.getElem?_eq_some_iff.1 h.at_).1; simp; omega); obtain ⟨A1, c1, rfl, _, _⟩ := (sliceAt_of_own ho3).form)
  go_ret
  refine ⟨rfl, .slice A1 (zs.length + 1) c1, set_at aB 0 _, ?_, nv, h.lt, ?_⟩
  · have := own_set ho3 (p := ⟨gl, 0, none⟩) nv (.slice A1 (zs.length + 1) c1)
    rw [show (zs ++ [x]).length = zs.length + 1 by simp, show nums (zs ++ [x]) = nums zs ++ nums [x] by simp [ints]]
    exact this
  · exact (below_own (below_step h.below bA) hg3 (by have := h.below.size; simp; omega) (fun g hg => (own_base h.own hg).1)).setCell h.lt _
theorem take_snoc {l : List Int} {x : Int} {R : Nat} (h1 : l.length + 1 ≤ R) : (l ++ (some x).toList).take R = l.take R ++ [x] := by
  rw [List.take_of_length_le (by simp; omega), List.take_of_length_le (by omega)]
  rfl
/-- how many more there is room for -/
def room (most : Int) (n : Nat) : Nat := (most - n).toNat
theorem room_lt {most : Int} {n k : Nat} : k < room most n ↔ ((n + k : Nat) : Int) < most := by unfold room; omega
set_option maxHeartbeats 400000 in
theorem Push_c (v u : Value) (most : Int) (zs xs : List Int) (w : World) (hs : SliceAt w 1 v zs.length (nums zs)) (hx : SliceAt w 1 u xs.length (nums xs)) (hl : zs.length ≤ 1000) (hl2 : xs.length ≤ 1000) :
    Calls Try.prog 7 #[.int .i64 most, v, u] w fun e w' => Below w.heap.size w w' ∧ ∃ v' ys r, e = .returned (.tuple #[v', .int .i64 r]) ∧ r = (xs.length : Int) - min xs.length (room most zs.length) ∧ ys = zs ++ xs.take (room most zs.length) ∧
      w'.ownsRow w.heap.size 3 1 v' ys.length (nums ys) := by
  obtain ⟨R, hR⟩ : ∃ R, room most zs.length = R := ⟨_, rfl⟩
  have HR := Lib.hid hR
  rw [hR]
  clear hR
  obtain ⟨A', c', rfl, _⟩ := hx.form
  go_enter Try.func7, Try.ntmps7
  go_wp2_with fail
  refine (Clone_c _ zs _ hs (by omega)).mono ?_
  rintro e w1 ⟨v1, rfl, ho1, b1⟩
  have L0 : Line w (w1.alloc (.cells #[v1, .int .i64 most] 48)) w1.heap.size v1 zs most :=
    ⟨new_at rfl _, own_later ho1 (fun g hg => Below.heap_alloc _ _ g (own_base ho1 hg).2), fun e => by have := (own_base ho1 e).2; omega, b1.size, below_step b1 (below_new _ _)⟩
  obtain ⟨A1, c1, rfl, _⟩ := (sliceAt_of_own ho1).form
  clear hs
  go_wp2_with fail
  have hw1 : w1.heap.size = w1.heap.size := rfl
  generalize w1.alloc (.cells #[.slice A1 zs.length c1, .int .i64 most] 48) = W0 at *
  go_loopw [18, 7] (fun i o wr => ∃ (k : Nat) (v' : Value) (ys : List Int), k ≤ xs.length ∧ i = .int .i64 k ∧ o = .int .i64 (k - min k R : Nat) ∧ Hid (ys = zs ++ (xs.take k).take R) ∧ Line w wr w1.heap.size v' ys most) (fun i _ _ => xs.length - (intOf i).toNat)
  case atStart => exact ⟨0, _, zs, Nat.zero_le _, rfl, by simp, Lib.hid (by simp), L0⟩
  case round =>
    obtain ⟨k, v', ys, hk, rfl, rfl, HY, L⟩ := hrel
    by_cases hlt : k < xs.length
    · have sx := hx.later (L.below)
      obtain ⟨bx, ox, cx, hvx, _, _, hbx, hcx⟩ := sx.pos (by omega)
      obtain ⟨rfl, _, rfl⟩ := Value.slice.inj hvx
      have c0 := hcx k _ (nums_get hlt)
      have HX := Lib.hid (List.getElem?_eq_getElem hlt)
      have i1 : (k : Int) < (xs.length : Int) := by omega
      have hyl : ys.length = zs.length + min k R := by rw [HY.out]; simp; omega
      have HYL := Lib.hid hyl
      have hys : ys.length ≤ 100000 := by omega
      clear hcx hvx sx hyl
      generalize xs[k] = x at *
      by_cases hr : k < R
      · have hroom := room_lt.1 (HR.out.symm ▸ hr : k < room most zs.length)
        have hm : (ys.length : Int) < most := by have := HYL.out; omega
        have ho : k - min k R = 0 := by omega
        have ho2 : k + 1 - min (k + 1) R = 0 := by omega
        rw [ho]
        clear hroom
        go_wp2_with fail
        refine (push_yes w _ _ _ ys most x L hm hys).mono ?_
        rintro e W2 ⟨rfl, v2, L2⟩
        go_wp2
        go_roundw
        case rel =>
          refine ⟨k + 1, v2, ys ++ [x], by omega, by go_num, by rw [ho2]; rfl, Lib.hid ?_, L2⟩
          rw [HY.out, List.take_add_one, HX.out, List.append_assoc]
          congr 1
          exact (take_snoc (by simp; omega)).symm
        case measure => simp [intOf]; omega
      · have hroom : ¬ ((zs.length + k : Nat) : Int) < most := fun h => hr (HR.out ▸ room_lt.2 h)
        have hm : ¬ (ys.length : Int) < most := by
          have h1 := HYL.out
          have h2 : ¬ ((zs.length + R : Nat) : Int) < most := fun h => Nat.lt_irrefl R (by have h3 := (room_lt (most := most) (n := zs.length) (k := R)).2 h; rwa [HR.out] at h3)
          omega
        obtain ⟨q, hq⟩ : ∃ q, k - min k R = q := ⟨_, rfl⟩
        have hq2 : k + 1 - min (k + 1) R = q + 1 := by omega
        have hq3 : (q : Int) ≤ 1000 := by omega
        rw [hq]
        clear hroom hq
        go_wp2_with fail
        refine (push_no w _ _ _ ys most x L (by omega)).mono ?_
        rintro e W2 ⟨rfl, L2⟩
        go_wp2
        go_roundw
        case rel =>
          refine ⟨k + 1, v', ys, by omega, by go_num, by rw [hq2]; go_num, Lib.hid ?_, L2⟩
          rw [HY.out, List.take_take, List.take_take, Nat.min_eq_left (by omega), Nat.min_eq_left (by omega)]
        case measure => simp [intOf]; omega
    · obtain rfl : k = xs.length := by omega
      have hy : ys = zs ++ xs.take R := by have h := HY.out; rwa [List.take_of_length_le (Nat.le_refl _)] at h
      have HY2 := Lib.hid hy
      obtain ⟨A2, c2, rfl, _⟩ := (sliceAt_of_own L.own).form
      have d0 := cell_at L.at_ 0
      have d1 := cell_at L.at_ 1
      clear hy
      go_wp2
      go_ret2
      exact ⟨L.below, _, ys, _, rfl, by omega, HY2.out, L.own⟩
end Go.Proofs.Ytdniapakoolbjaa
