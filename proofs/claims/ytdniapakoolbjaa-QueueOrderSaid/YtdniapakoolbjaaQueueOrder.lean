/- QueueOrder: for every argument the statement's Go text returns true and turns nothing that was there. It is proved at every argument, without a condition beyond the row. -/
import Derived.Test.YtdniapakoolbjaaQueW
import Derived.Test.YtdniapakoolbjaaArg
import Derived.Test.YtdniapakoolbjaaFrame
import Derived.Deep.RegionHeld3
import Derived.Deep.DrawnRows
namespace Go.Proofs.Ytdniapakoolbjaa.queueOrder
open Go.ChangeShapes Go.WideShapes Go.ChangeAt Go.RowKit Rf
attribute [local go_sem ↓] run_max2 run_min2
open Mem Go.ChangeShapes Go.WideShapes
def deeds (xs : List (Int × Int × Int)) : List Value := xs.flatMap (fun x => [.int .i64 x.1, .int .i64 x.2.1, .int .i64 x.2.2])
theorem deeds_get {xs : List (Int × Int × Int)} {k : Nat} {x : Int × Int × Int} (h : xs[k]? = some x) : (deeds xs)[k * 3 + 0]? = some (.int .i64 x.1) ∧ (deeds xs)[k * 3 + 1]? = some (.int .i64 x.2.1) ∧ (deeds xs)[k * 3 + 2]? = some (.int .i64 x.2.2) := by
  unfold deeds
  refine ⟨?_, ?_, ?_⟩
  · rw [flatMap_get (sz := 3) (fun _ _ => rfl) k 0 (by omega), h]; rfl
  · rw [flatMap_get (sz := 3) (fun _ _ => rfl) k 1 (by omega), h]; rfl
  · rw [flatMap_get (sz := 3) (fun _ _ => rfl) k 2 (by omega), h]; rfl
theorem own_below {W W' : World} {base e sz n : Nat} {v : Value} {xs : List Value} (h : W.ownsRow base e sz v n xs) (hb : Below W.heap.size W W') : W'.ownsRow base e sz v n xs :=
  own_later h (fun k hk => hb.block k (own_base h hk).2)
/-- the queue, and what is wanted: two rows of the call's own -/
structure St (w W : World) (vq vw : Value) (ys zs : List Int) : Prop where
  q : W.ownsRow w.heap.size 3 1 vq ys.length (nums ys)
  t : W.ownsRow w.heap.size 3 1 vw zs.length (nums zs)
  ne : ∀ g, vq.ownBlock = some g → vw.ownBlock ≠ some g
  below : Below w.heap.size w W
theorem St.later {w W W' : World} {vq vw : Value} {ys zs : List Int} (h : St w W vq vw ys zs) (hb : Below W.heap.size W W') : St w W' vq vw ys zs :=
  ⟨own_below h.q hb, own_below h.t hb, h.ne, below_step h.below hb⟩
theorem St.push {w W W' : World} {vq vw vq' : Value} {ys zs ys' : List Int} (h : St w W vq vw ys zs) (hb : Below W.heap.size W W') (o : W'.ownsRow W.heap.size 3 1 vq' ys'.length (nums ys')) : St w W' vq' vw ys' zs :=
  ⟨own_base_le o h.below.size, own_below h.t hb, fun g hg hv => by have := (own_base o hg).1; have := (own_base h.t hv).2; omega, below_step h.below hb⟩
theorem St.fresh {w W W' : World} {vq vw vw' : Value} {ys zs zs' : List Int} (h : St w W vq vw ys zs) (hb : Below W.heap.size W W') (o : W'.ownsRow W.heap.size 3 1 vw' zs'.length (nums zs')) : St w W' vq vw' ys zs' :=
  ⟨own_below h.q hb, own_base_le o h.below.size, fun g hg hv => by have := (own_base o hv).1; have := (own_base h.q hg).2; omega, below_step h.below hb⟩
theorem St.want {w W W1 W2 : World} {vq vw vw' : Value} {ys zs zs' : List Int} (h : St w W vq vw ys zs) (b1 : Below W.heap.size W W1) (o : W2.ownsRow w.heap.size 3 1 vw' zs'.length (nums zs')) (hg : W1.grownBy W2 vw.ownBlock) (hv : vw'.ownBlock = vw.ownBlock ∨ vw'.ownBlock = some W1.heap.size) : St w W2 vq vw' ys zs' := by
  have s1 := b1.size
  refine ⟨own_later h.q (fun k hk => (hg.block k (by have := (own_base h.q hk).2; omega) (fun e => h.ne k hk e.symm)).trans (b1.block k (own_base h.q hk).2)), o, fun g hg' hv' => ?_, below_own (below_step h.below b1) hg (by have := h.below.size; omega) (fun g hg => (own_base h.t hg).1)⟩
  rcases hv with e | e
  · rw [e] at hv'; exact h.ne g hg' hv'
  · rw [e] at hv'; have := Option.some.inj hv'; have := (own_base h.q hg').2; omega
set_option maxHeartbeats 8000000 in
set_option maxRecDepth 100000 in
theorem walk_good (v : Value) (xs : List (Int × Int × Int)) (most : Int) (w : World) (hs : SliceAt w 3 v xs.length (deeds xs)) (m1 : 0 ≤ most) (m2 : most ≤ 10) (h2 : xs.length ≤ 60) :
    Calls Try.prog 3 #[.int .i64 most, v] w fun e w' => e = .returned (.bool true) ∧ Below w.heap.size w w' := by
  have q1 : decide (most < 0) = false := decide_eq_false (by omega)
  have q2 : decide (10 < most) = false := decide_eq_false (by omega)
  have q3 : decide ((60 : Int) < (xs.length : Int)) = false := decide_eq_false (by omega)
  obtain ⟨i0, hi, hz0, hz1, hz2⟩ := info_parts info_int
  obtain ⟨Ax, cx, rfl, _⟩ := hs.form
  go_enter Try.func3, Try.ntmps3
  go_wp2_with fail
  go_loopw [5, 6, 7] (fun q t i wr => ∃ (k : Nat) (vq vw : Value) (ys : List Int), k ≤ xs.length ∧ q = vq ∧ t = vw ∧ i = .int .i64 k ∧ (ys.length : Int) ≤ most ∧ St w wr vq vw ys ys) (fun _ _ i _ => xs.length - (intOf i).toNat)
  case atStart => exact ⟨0, _, _, [], Nat.zero_le _, rfl, rfl, rfl, by simpa using m1, own_nil _ _ _ _, own_nil _ _ _ _, (fun g hg => by cases hg), Below.refl _ _⟩
  case round =>
    obtain ⟨k, vq, vw, ys, hk, rfl, rfl, rfl, hym, S⟩ := hrel
    obtain ⟨Aq, cq, rfl, _⟩ := (sliceAt_of_own S.q).form
    obtain ⟨Aw, cw, rfl, _⟩ := (sliceAt_of_own S.t).form
    by_cases hlt : k < xs.length
    · obtain ⟨bx, ox, cx', hvx, _, _, hbx, hcx⟩ := (hs.later S.below).pos (by omega)
      obtain ⟨rfl, _, rfl⟩ := Value.slice.inj hvx
      obtain ⟨g0, g1, g2⟩ := deeds_get (List.getElem?_eq_getElem hlt)
      have c0 := hcx _ _ g0
      have c1 := hcx _ _ g1
      have c2 := hcx _ _ g2
      rw [Nat.add_zero] at c0
      rw [← Nat.add_assoc] at c1 c2
      clear hcx hvx g0 g1 g2
      generalize xs[k] = x at *
      obtain ⟨xa, xb, xc⟩ := x
      dsimp only at c0 c1 c2
      have i1 : (k : Int) < (xs.length : Int) := by omega
      have bA := below_new wr (.cells #[.int .i64 xa, .int .i64 xb, .int .i64 xc] 26)
      have S1 := S.later bA
      have aA : (wr.alloc (.cells #[.int .i64 xa, .int .i64 xb, .int .i64 xc] 26)).heap[wr.heap.size]? = some (.cells #[.int .i64 xa, .int .i64 xb, .int .i64 xc] 26 (0, 0)) := new_at rfl _
      have d0 := cell_at aA 0
      have d1 := cell_at aA 1
      have d2 := cell_at aA 2
      by_cases ha : xa = 0
      · subst ha
        have bB := below_new (wr.alloc (.cells #[.int .i64 0, .int .i64 xb, .int .i64 xc] 26)) (.cells #[.int .i64 xc] 3)
        have S2 := S1.later bB
        have sx : SliceAt ((wr.alloc (.cells #[.int .i64 0, .int .i64 xb, .int .i64 xc] 26)).alloc (.cells #[.int .i64 xc] 3)) 1 (.slice (some ⟨wr.heap.size + 1, 0, none⟩) 1 1) 1 (nums [xc]) := sliceAt_blk (new_at (by simp) _) rfl (by simp [maxLen])
        have aB := old_at aA (.cells #[.int .i64 xc] 3)
        obtain ⟨L, hL⟩ : ∃ L, ys.length = L := ⟨_, rfl⟩
        have hwr : IntKind.i64.wrap ((L : Int) + 1) = (L : Int) + 1 := IntWalk.i64_in _ (by omega)
        by_cases hr : (L : Int) < most
        · obtain ⟨zs, hz⟩ : ∃ zs, zs = ys ++ [xc] := ⟨_, rfl⟩
          have hzl : zs.length = L + 1 := by rw [hz, ← hL]; simp
          obtain ⟨M, hM⟩ : ∃ M, zs.length = M := ⟨_, rfl⟩
          have t1 : decide ((L : Int) < most) = true := decide_eq_true hr
          have t2 : ((M : Int) == (L : Int) + 1) = true := by simp; omega
          have t3 : decide (most < (M : Int)) = false := decide_eq_false (by omega)
          have hrm : 1 ≤ room most ys.length := by rw [hL]; unfold room; omega
          have HP := Lib.hid (Push_g (.slice Aq ys.length cq) (.slice (some ⟨wr.heap.size + 1, 0, none⟩) 1 1) most 0 ys [xc] zs _ (sliceAt_of_own S2.q) sx (by omega) (by simp) (by simp; omega) (by rw [hz, List.take_of_length_le (by simpa using hrm)]))
          have HZ := Lib.hid hz
          have HL := Lib.hid hL
          have HM := Lib.hid hM
          have HZL := Lib.hid hzl
          rw [hL, hM] at HP
          rw [hL]
          clear hz hzl hrm hL hM sx
          go_wp2_with fail
          refine (HP.out).mono ?_
          rintro e w1 ⟨b1, A1, c1', rfl, o1⟩
          have S3 := S2.push (ys' := zs) (vq' := .slice A1 M c1') b1 (by rw [HM.out]; exact o1)
          have a3 := below_at b1 aB (by simp; omega)
          have d3 := cell_at a3 2
          have bC := below_new w1 (.cells #[.int .i64 xc] 3)
          have S4 := S3.later bC
          have sc : SliceAt (w1.alloc (.cells #[.int .i64 xc] 3)) 1 (.slice (some ⟨w1.heap.size, 0, none⟩) 1 1) 1 (nums [xc]) := sliceAt_blk (new_at rfl _) rfl (by simp [maxLen])
          have ot : (w1.alloc (.cells #[.int .i64 xc] 3)).ownsRow w.heap.size 3 1 (.slice Aw L cw) L (nums ys) := by have := S4.t; rwa [HL.out] at this
          clear d0 d1 d2 aA aB a3 b1 o1 HP S2 S1 S bA bB
          go_wp2_with (at_builtin; refine wpList_append_src (by rfl) (.tmp 55) (.tmp 58) _ (by rfl) w.heap.size 3 i0 _ 1 8 Try.underlying24 hi hz0 hz1 hz2 rfl (by omega) (.slice Aw L cw) L (nums ys) (by rfl) ot (.slice (some ⟨w1.heap.size, 0, none⟩) 1 1) 1 (nums [xc]) (by rfl) sc (nums_one _) (by simp only [maxLen]; omega) (by omega) (by have := S4.below.size; omega) ?_; intro v2 w2 o2 g2 hv2; have o3 : w2.ownsRow w.heap.size 3 1 v2 zs.length (nums zs) := (by rw [HZL.out, HZ.out, show nums (ys ++ [xc]) = nums ys ++ nums [xc] by simp [ints]]; exact o2); have S5 := S3.want bC o3 (HL.out ▸ g2) (HL.out ▸ hv2); rw [HM.out] at o3; obtain ⟨A2, c2', rfl, _, _⟩ := (sliceAt_of_own o3).form; clear o2 g2 hv2 o3)
          refine (Ints_g _ _ zs zs true _ (by simp) (sliceAt_of_own S5.q) (sliceAt_of_own S5.t) (by have := HZL.out; omega)).mono ?_
          rintro e w3 ⟨rfl, b3⟩
          go_wp2
          go_roundw
          case rel => exact ⟨k + 1, _, _, zs, by omega, rfl, rfl, by go_num, by have := HZL.out; omega, S5.later b3⟩
          case measure => simp [intOf]; omega
        · have t1 : decide ((L : Int) < most) = false := decide_eq_false hr
          have t2 : ((L : Int) == (L : Int) + 1) = false := by simp; omega
          have t3 : decide (most < (L : Int)) = false := decide_eq_false (by omega)
          have hrm : room most ys.length = 0 := by rw [hL]; unfold room; omega
          have HP := Lib.hid (Push_g (.slice Aq ys.length cq) (.slice (some ⟨wr.heap.size + 1, 0, none⟩) 1 1) most 1 ys [xc] ys _ (sliceAt_of_own S2.q) sx (by omega) (by simp) (by rw [hrm]; simp) (by rw [hrm]; simp))
          have HL := Lib.hid hL
          rw [hL] at HP
          rw [hL]
          clear hrm hL sx
          go_wp2_with fail
          refine (HP.out).mono ?_
          rintro e w1 ⟨b1, A1, c1', rfl, o1⟩
          have S3 := S2.push (ys' := ys) (vq' := .slice A1 L c1') b1 (by rw [HL.out]; exact o1)
          clear d0 d1 d2 aA aB b1 o1 HP S2 S1 S bA bB
          go_wp2_with fail
          refine (Ints_g _ _ ys ys true _ (by simp) (sliceAt_of_own S3.q) (by rw [← HL.out]; exact sliceAt_of_own S3.t) (by have := HL.out; omega)).mono ?_
          rintro e w3 ⟨rfl, b3⟩
          have S4 := S3.later b3
          rw [HL.out] at S4
          go_wp2
          go_roundw
          case rel => exact ⟨k + 1, _, _, ys, by omega, rfl, rfl, by go_num, by have := HL.out; omega, S4⟩
          case measure => simp [intOf]; omega
      · have t0 : (xa == 0) = false := by simpa using ha
        have hym' : (ys.length : Int) ≤ most := hym
        by_cases hb : xa = 1
        · skip
          subst hb
          clear t0 ha
          by_cases hL0 : ys.length = 0
          · skip
            obtain rfl : ys = [] := List.eq_nil_of_length_eq_zero hL0
            have u3 : decide (most < 0) = false := decide_eq_false (by omega)
            clear hL0 hym hym'
            simp only [List.length_nil] at S S1 ⊢
            go_wp2_with fail
            refine (First_g _ [] 0 false _ rfl rfl (sliceAt_of_own S1.q)).mono ?_
            rintro e w' ⟨rfl, rfl⟩
            go_wp2_with fail
            refine (Take_no _ [] 0 _ (sliceAt_of_own S1.q) (by simp) (by simp)).mono ?_
            rintro e w1 ⟨b1, A1, c1', rfl, o1⟩
            have S3 := S1.push b1 o1
            clear d0 d1 d2 aA b1 o1 S1 S bA
            go_wp2_with fail
            refine (Ints_g _ _ [] [] true _ (by simp) (sliceAt_of_own S3.q) (sliceAt_of_own S3.t) (by simp)).mono ?_
            rintro e w3 ⟨rfl, b3⟩
            have S4 := S3.later b3
            go_wp2
            go_roundw
            case rel => exact ⟨k + 1, _, _, [], by omega, rfl, rfl, by go_num, by simpa using m1, S4⟩
            case measure => simp [intOf]; omega
          · have HBD := Lib.hid (show true = decide (0 < ys.length) from (decide_eq_true (by omega)).symm)
            have hkl : 0 < ys.length := by omega
            have u1 : decide ((0 : Int) < (ys.length : Int)) = true := decide_eq_true (by omega)
            go_wp2_with fail
            refine (First_g _ ys (firstV ys) true _ rfl HBD.out (sliceAt_of_own S1.q)).mono ?_
            rintro e w' ⟨rfl, rfl⟩
            obtain ⟨y, hyy, hyk⟩ : ∃ y, y = firstV ys ∧ ys[0]? = some y := ⟨_, (by cases ys with | nil => simp at hL0 | cons y ys => rfl), List.getElem?_eq_getElem hkl⟩
            have HYK := Lib.hid hyk
            clear hyk
            subst hyy
            go_wp2_with fail
            refine (Take_yes _ ys 0 0 (firstV ys) _ (rfl) HYK.out (sliceAt_of_own S1.q) (by omega)).mono ?_
            rintro e w1 ⟨b1, A1, c1', zs, rfl, hz, o1⟩
            have HZ := Lib.hid hz
            have hzl : zs.length + 1 = ys.length := by rw [hz]; simp; omega
            have HZL := Lib.hid hzl
            have hzm : decide (most < (zs.length : Int)) = false := decide_eq_false (by omega)
            have S3 := S1.push b1 o1
            obtain ⟨gw, ow, cw', hvw, hcwl, hcm, hbw, hcw⟩ := (sliceAt_of_own S3.t).pos (by omega)
            obtain ⟨rfl, _, rfl⟩ := Value.slice.inj hvw
            have r0 := hcw 0 (.int .i64 (firstV ys)) (by cases ys with | nil => simp at hL0 | cons y ys => simp [ints, firstV])
            rw [Nat.add_zero] at r0
            obtain ⟨j, hj⟩ : ∃ j, j = 0 + 1 := ⟨_, rfl⟩
            have HJ := Lib.hid hj
            have hwj : IntKind.i64.wrap (1) = (j : Int) := by rw [hj]; rfl
            have ij : (j : Int) ≤ (ys.length : Int) := by omega
            have ijn : j ≤ ys.length := by omega
            clear hcw hvw hz hzl hj
            clear d0 d1 d2 aA b1 o1 S1 S bA
            go_wp2_with fail
            have S4 := S3.later (Below.refl _ w1).drew
            clear S3 r0
            refine wp_region_held_drew (S := (fun _ => True)) (by kernel_rfl) ?_ (fun hHeld => ?_)
            · trivial
            have sl1 := (sliceAt_of_own S4.t).take (k := 0) (by omega)
            have sl2 := (sliceAt_of_own S4.t).sub (lo := j) (hi := ys.length) ijn (Nat.le_refl _)
            rw [show (some (⟨gw, ow, none⟩ : Addr)).map (·.add (j * 1)) = some ⟨gw, ow + j, none⟩ by simp [Addr.add]] at sl2
            rw [show List.take (0 * 1) (nums ys) = nums (ys.take 0) by simp [ints]] at sl1
            rw [show List.take ((ys.length - j) * 1) (List.drop (j * 1) (nums ys)) = nums (ys.drop j) by simp [ints, List.take_of_length_le]] at sl2
            have HS1 := Lib.hid sl1
            have HS2 := Lib.hid sl2
            have hcwi : (ys.length : Int) ≤ (cw : Int) := by omega
            clear sl1 sl2
            generalize w1.drew = W1 at *
            refine wpAnyH_take (i := 1) (v := ?_) rfl (by kernel_rfl) (by kernel_rfl) (by kernel_rfl) (fun _ _ _ h => h) (Or.inl ⟨by rfl, ?_⟩) (by assumption) ?_
            rotate_left
            · intro w hSw
              try dsimp only at hSw
              go_simp
              try with_reducible rfl
            simp only [List.getElem_toArray, List.getElem_cons_succ, List.getElem_cons_zero, Act.put, List.setIfInBounds_toArray, List.set_cons_zero, List.set_cons_succ]
            refine wpAnyH_take (i := 2) (v := ?_) rfl (by kernel_rfl) (by kernel_rfl) (by kernel_rfl) (fun _ _ _ h => h) (Or.inl ⟨by rfl, ?_⟩) (by assumption) ?_
            rotate_left
            · intro w hSw
              try dsimp only at hSw
              go_simp
              try with_reducible rfl
            simp only [List.getElem_toArray, List.getElem_cons_succ, List.getElem_cons_zero, Act.put, List.setIfInBounds_toArray, List.set_cons_zero, List.set_cons_succ]
            refine wpAnyH_take (i := 3) (v := ?_) rfl (by kernel_rfl) (by kernel_rfl) (by kernel_rfl) (fun _ _ _ h => h) (Or.inl ⟨by rfl, ?_⟩) (by assumption) ?_
            rotate_left
            · intro w hSw
              try dsimp only at hSw
              go_simp
              try with_reducible rfl
            simp only [List.getElem_toArray, List.getElem_cons_succ, List.getElem_cons_zero, Act.put, List.setIfInBounds_toArray, List.set_cons_zero, List.set_cons_succ]
            refine wpAnyH_take (i := 5) (v := ?_) rfl (by kernel_rfl) (by kernel_rfl) (by kernel_rfl) (fun _ _ _ h => h) (Or.inl ⟨by rfl, ?_⟩) (by assumption) ?_
            rotate_left
            · intro w hSw
              try dsimp only at hSw
              go_simp
              try with_reducible rfl
            simp only [List.getElem_toArray, List.getElem_cons_succ, List.getElem_cons_zero, Act.put, List.setIfInBounds_toArray, List.set_cons_zero, List.set_cons_succ]
            refine wpAnyH_take (i := 6) (v := ?_) rfl (by kernel_rfl) (by kernel_rfl) (by kernel_rfl) (fun _ _ _ h => h) (Or.inl ⟨by rfl, ?_⟩) (by assumption) ?_
            rotate_left
            · intro w hSw
              try dsimp only at hSw
              go_simp
              try with_reducible rfl
            simp only [List.getElem_toArray, List.getElem_cons_succ, List.getElem_cons_zero, Act.put, List.setIfInBounds_toArray, List.set_cons_zero, List.set_cons_succ]
            refine wpAnyH_take (i := 7) (v := ?_) rfl (by kernel_rfl) (by kernel_rfl) (by kernel_rfl) (fun _ _ _ h => h) (Or.inl ⟨by rfl, ?_⟩) (by assumption) ?_
            rotate_left
            · intro w hSw
              try dsimp only at hSw
              go_simp
              try with_reducible rfl
            simp only [List.getElem_toArray, List.getElem_cons_succ, List.getElem_cons_zero, Act.put, List.setIfInBounds_toArray, List.set_cons_zero, List.set_cons_succ]
            refine wpAnyH_take (i := 8) (v := ?_) rfl (by kernel_rfl) (by kernel_rfl) (by kernel_rfl) (fun _ _ _ h => h) (Or.inl ⟨by rfl, ?_⟩) (by assumption) ?_
            rotate_left
            · intro w hSw
              try dsimp only at hSw
              go_simp
              try with_reducible rfl
            simp only [List.getElem_toArray, List.getElem_cons_succ, List.getElem_cons_zero, Act.put, List.setIfInBounds_toArray, List.set_cons_zero, List.set_cons_succ]
            have b2 := below_new W1 (.cells #[] 3)
            have o2 := own_empty W1 3 1
            have s1 := HS1.out.later b2
            have s2 := HS2.out.later b2
            refine wpAnyH_ready (rs := [0]) (by kernel_rfl) (by simp) ?_
            refine AllReadyH.cons rfl (fun K hK => ?_) AllReadyH.nil
            go_simp
            refine hK.out _ _ trivial (fun _ => ?_)
            clear hK K
            try simp only [List.getElem_toArray, List.getElem_cons_succ, List.getElem_cons_zero, Act.put, List.setIfInBounds_toArray, List.set_cons_zero, List.set_cons_succ]
            refine wpAnyH_ready (rs := [4]) (by kernel_rfl) (by simp) ?_
            refine AllReadyH.cons rfl (fun K hK => ?_) AllReadyH.nil
            rw [if_pos (by rfl)]
            refine wp_append_src (.tmp 129) (.tmp 132) _ (by rfl) W1.heap.size 3 i0 _ 1 8 Try.underlying24 hi hz0 hz1 hz2 rfl (by omega) (.slice (some ⟨W1.heap.size, 0, none⟩) 0 0) 0 [] (by rfl) o2 (.slice (some ⟨gw, ow, none⟩) 0 cw) 0 (nums (ys.take 0)) (by rfl) s1 (nums_one _) (by simp only [maxLen]; omega) (by omega) (by simp) ?_
            intro v3 w3 o3 g3 hv3
            rw [Nat.zero_add, List.nil_append] at o3
            have b3 := below_own b2 g3 (by simp) (by intro g hg; cases hg; exact Nat.le_refl _)
            have s3 := HS2.out.later b3
            have b3s := b3.size
            obtain ⟨A3, c3, rfl, _, _⟩ := (sliceAt_of_own o3).form
            refine hK.out _ _ trivial (fun _ => ?_)
            clear hK K
            try simp only [List.getElem_toArray, List.getElem_cons_succ, List.getElem_cons_zero, Act.put, List.setIfInBounds_toArray, List.set_cons_zero, List.set_cons_succ]
            refine wpAnyH_ready (rs := [9]) (by kernel_rfl) (by simp) ?_
            refine AllReadyH.cons rfl (fun K hK => ?_) AllReadyH.nil
            rw [if_pos (by rfl)]
            refine wp_append_src (.tmp 133) (.tmp 137) _ (by rfl) W1.heap.size 3 i0 _ 1 8 Try.underlying24 hi hz0 hz1 hz2 rfl (by omega) (.slice A3 0 c3) 0 (nums (ys.take 0)) (by rfl) o3 (.slice (if cw = j then some ⟨gw, ow, none⟩ else some ⟨gw, ow + j, none⟩) (ys.length - j) (cw - j)) (ys.length - j) (nums (ys.drop j)) (by rfl) s3 (nums_one _) (by simp only [maxLen]; omega) (by omega) b3s ?_
            intro v4 w4 o4 g4 hv4
            have o4' : w4.ownsRow W1.heap.size 3 1 v4 zs.length (nums zs) := by
              have h1 := HZ.out
              have h2 := HZL.out
              have h3 := HJ.out
              rw [← h3] at h1
              rw [show zs.length = 0 + (ys.length - j) by omega, h1, show nums (ys.take 0 ++ ys.drop j) = nums (ys.take 0) ++ nums (ys.drop j) by simp [ints]]
              exact o4
            have b4 := below_own b3 g4 b3s (fun g hg => (own_base o3 hg).1)
            have S5 := S4.fresh b4 o4'
            obtain ⟨A4, c4, rfl, _, _⟩ := (sliceAt_of_own o4').form
            refine hK.out _ _ trivial (fun _ => ?_)
            clear hK K
            try simp only [List.getElem_toArray, List.getElem_cons_succ, List.getElem_cons_zero, Act.put, List.setIfInBounds_toArray, List.set_cons_zero, List.set_cons_succ]
            refine wpAnyH_take (i := 10) (v := ?_) rfl (by kernel_rfl) (by kernel_rfl) (by kernel_rfl) (fun _ _ _ h => h) (Or.inl ⟨by rfl, ?_⟩) (by assumption) ?_
            rotate_left
            · intro w hSw
              try dsimp only at hSw
              go_simp
              try with_reducible rfl
            simp only [List.getElem_toArray, List.getElem_cons_succ, List.getElem_cons_zero, Act.put, List.setIfInBounds_toArray, List.set_cons_zero, List.set_cons_succ]
            refine wpAnyH_done (by kernel_rfl) ?_ _
            clear b2 o2 s1 s2 o3 g3 hv3 b3 s3 o4 g4 hv4 o4' b4 HS1 HS2
            generalize (if cw = j then (some ⟨gw, ow, none⟩ : Option Addr) else some ⟨gw, ow + j, none⟩) = P2
            go_wp2_with fail
            refine (Ints_g _ _ zs zs true _ (by simp) (sliceAt_of_own S5.q) (sliceAt_of_own S5.t) (by have := HZL.out; omega)).mono ?_
            rintro e w5 ⟨rfl, b5⟩
            have S6 := S5.later b5
            go_wp2
            go_roundw
            case rel => exact ⟨k + 1, _, _, zs, by omega, rfl, rfl, by go_num, by have := HZL.out; omega, S6⟩
            case measure => simp [intOf]; omega
        · skip
          have t1 : (xa != 1) = true := by simpa using hb
          by_cases hL0 : ys.length = 0
          · skip
            obtain rfl : ys = [] := List.eq_nil_of_length_eq_zero hL0
            have u3 : decide (most < 0) = false := decide_eq_false (by omega)
            clear hL0 hym hym'
            simp only [List.length_nil] at S S1 ⊢
            have hv : (decide (0 ≤ xb) = false) ∨ (decide (0 ≤ xb) = true ∧ decide (xb < 0) = false) := by
              by_cases h : 0 ≤ xb
              · exact .inr ⟨decide_eq_true h, decide_eq_false (by omega)⟩
              · exact .inl (decide_eq_false h)
            rcases hv with v1 | ⟨v1, v2⟩
            all_goals
              go_wp2_with fail
              refine (First_g _ [] 0 false _ rfl rfl (sliceAt_of_own S1.q)).mono ?_
              rintro e w' ⟨rfl, rfl⟩
              go_wp2_with fail
              refine (Take_no _ [] xb _ (sliceAt_of_own S1.q) (by simp) (by simp; omega)).mono ?_
              rintro e w1 ⟨b1, A1, c1', rfl, o1⟩
              have S3 := S1.push b1 o1
              clear d0 d1 d2 aA b1 o1 S1 S bA
              go_wp2_with fail
              refine (Ints_g _ _ [] [] true _ (by simp) (sliceAt_of_own S3.q) (sliceAt_of_own S3.t) (by simp)).mono ?_
              rintro e w3 ⟨rfl, b3⟩
              have S4 := S3.later b3
              go_wp2
              go_roundw
              case rel => exact ⟨k + 1, _, _, [], by omega, rfl, rfl, by go_num, by simpa using m1, S4⟩
              case measure => simp [intOf]; omega
          · have HBD := Lib.hid (show true = decide (0 < ys.length) from (decide_eq_true (by omega)).symm)
            have u1 : decide ((0 : Int) < (ys.length : Int)) = true := decide_eq_true (by omega)
            have u0 : 0 < ys.length := by omega
            by_cases hx : 0 ≤ xb ∧ xb < (ys.length : Int)
            · obtain ⟨hx1, hx2⟩ := hx
              obtain ⟨kk, rfl⟩ := Int.eq_ofNat_of_zero_le hx1
              have hkl : kk < ys.length := by omega
              have v2 : decide ((kk : Int) < (ys.length : Int)) = true := decide_eq_true hx2
              clear hx1 hx2
              go_wp2_with fail
              refine (First_g _ ys (firstV ys) true _ rfl HBD.out (sliceAt_of_own S1.q)).mono ?_
              rintro e w' ⟨rfl, rfl⟩
              obtain ⟨y, hyy, hyk⟩ : ∃ y, True ∧ ys[kk]? = some y := ⟨_, trivial, List.getElem?_eq_getElem hkl⟩
              have HYK := Lib.hid hyk
              clear hyk
              go_wp2_with fail
              refine (Take_yes _ ys kk (kk : Int) y _ (rfl) HYK.out (sliceAt_of_own S1.q) (by omega)).mono ?_
              rintro e w1 ⟨b1, A1, c1', zs, rfl, hz, o1⟩
              have HZ := Lib.hid hz
              have hzl : zs.length + 1 = ys.length := by rw [hz]; simp; omega
              have HZL := Lib.hid hzl
              have hzm : decide (most < (zs.length : Int)) = false := decide_eq_false (by omega)
              have S3 := S1.push b1 o1
              obtain ⟨gw, ow, cw', hvw, hcwl, hcm, hbw, hcw⟩ := (sliceAt_of_own S3.t).pos (by omega)
              obtain ⟨rfl, _, rfl⟩ := Value.slice.inj hvw
              have r0 := hcw 0 (.int .i64 (firstV ys)) (by cases ys with | nil => simp at hL0 | cons y ys => simp [ints, firstV])
              rw [Nat.add_zero] at r0
              have r1 := hcw kk (.int .i64 y) (by simp [ints, HYK.out])
              obtain ⟨j, hj⟩ : ∃ j, j = kk + 1 := ⟨_, rfl⟩
              have HJ := Lib.hid hj
              have hwj : IntKind.i64.wrap ((kk : Int) + 1) = (j : Int) := by rw [hj]; exact IntWalk.i64_in _ (by omega)
              have ij : (j : Int) ≤ (ys.length : Int) := by omega
              have ijn : j ≤ ys.length := by omega
              clear hcw hvw hz hzl hj
              clear d0 d1 d2 aA b1 o1 S1 S bA
              go_wp2_with fail
              have S4 := S3.later (Below.refl _ w1).drew
              clear S3 r0 r1
              refine wp_region_held_drew (S := (fun _ => True)) (by kernel_rfl) ?_ (fun hHeld => ?_)
              · trivial
              have sl1 := (sliceAt_of_own S4.t).take (k := kk) (by omega)
              have sl2 := (sliceAt_of_own S4.t).sub (lo := j) (hi := ys.length) ijn (Nat.le_refl _)
              rw [show (some (⟨gw, ow, none⟩ : Addr)).map (·.add (j * 1)) = some ⟨gw, ow + j, none⟩ by simp [Addr.add]] at sl2
              rw [show List.take (kk * 1) (nums ys) = nums (ys.take kk) by simp [ints]] at sl1
              rw [show List.take ((ys.length - j) * 1) (List.drop (j * 1) (nums ys)) = nums (ys.drop j) by simp [ints, List.take_of_length_le]] at sl2
              have HS1 := Lib.hid sl1
              have HS2 := Lib.hid sl2
              have hcwi : (ys.length : Int) ≤ (cw : Int) := by omega
              have hcwk : kk ≤ cw := by omega
              clear sl1 sl2
              generalize w1.drew = W1 at *
              refine wpAnyH_take (i := 1) (v := ?_) rfl (by kernel_rfl) (by kernel_rfl) (by kernel_rfl) (fun _ _ _ h => h) (Or.inl ⟨by rfl, ?_⟩) (by assumption) ?_
              rotate_left
              · intro w hSw
                try dsimp only at hSw
                go_simp
                try with_reducible rfl
              simp only [List.getElem_toArray, List.getElem_cons_succ, List.getElem_cons_zero, Act.put, List.setIfInBounds_toArray, List.set_cons_zero, List.set_cons_succ]
              refine wpAnyH_take (i := 2) (v := ?_) rfl (by kernel_rfl) (by kernel_rfl) (by kernel_rfl) (fun _ _ _ h => h) (Or.inl ⟨by rfl, ?_⟩) (by assumption) ?_
              rotate_left
              · intro w hSw
                try dsimp only at hSw
                go_simp
                try with_reducible rfl
              simp only [List.getElem_toArray, List.getElem_cons_succ, List.getElem_cons_zero, Act.put, List.setIfInBounds_toArray, List.set_cons_zero, List.set_cons_succ]
              refine wpAnyH_take (i := 3) (v := ?_) rfl (by kernel_rfl) (by kernel_rfl) (by kernel_rfl) (fun _ _ _ h => h) (Or.inl ⟨by rfl, ?_⟩) (by assumption) ?_
              rotate_left
              · intro w hSw
                try dsimp only at hSw
                go_simp
                try with_reducible rfl
              simp only [List.getElem_toArray, List.getElem_cons_succ, List.getElem_cons_zero, Act.put, List.setIfInBounds_toArray, List.set_cons_zero, List.set_cons_succ]
              refine wpAnyH_take (i := 5) (v := ?_) rfl (by kernel_rfl) (by kernel_rfl) (by kernel_rfl) (fun _ _ _ h => h) (Or.inl ⟨by rfl, ?_⟩) (by assumption) ?_
              rotate_left
              · intro w hSw
                try dsimp only at hSw
                go_simp
                try with_reducible rfl
              simp only [List.getElem_toArray, List.getElem_cons_succ, List.getElem_cons_zero, Act.put, List.setIfInBounds_toArray, List.set_cons_zero, List.set_cons_succ]
              refine wpAnyH_take (i := 6) (v := ?_) rfl (by kernel_rfl) (by kernel_rfl) (by kernel_rfl) (fun _ _ _ h => h) (Or.inl ⟨by rfl, ?_⟩) (by assumption) ?_
              rotate_left
              · intro w hSw
                try dsimp only at hSw
                go_simp
                try with_reducible rfl
              simp only [List.getElem_toArray, List.getElem_cons_succ, List.getElem_cons_zero, Act.put, List.setIfInBounds_toArray, List.set_cons_zero, List.set_cons_succ]
              refine wpAnyH_take (i := 7) (v := ?_) rfl (by kernel_rfl) (by kernel_rfl) (by kernel_rfl) (fun _ _ _ h => h) (Or.inl ⟨by rfl, ?_⟩) (by assumption) ?_
              rotate_left
              · intro w hSw
                try dsimp only at hSw
                go_simp
                try with_reducible rfl
              simp only [List.getElem_toArray, List.getElem_cons_succ, List.getElem_cons_zero, Act.put, List.setIfInBounds_toArray, List.set_cons_zero, List.set_cons_succ]
              refine wpAnyH_take (i := 8) (v := ?_) rfl (by kernel_rfl) (by kernel_rfl) (by kernel_rfl) (fun _ _ _ h => h) (Or.inl ⟨by rfl, ?_⟩) (by assumption) ?_
              rotate_left
              · intro w hSw
                try dsimp only at hSw
                go_simp
                try with_reducible rfl
              simp only [List.getElem_toArray, List.getElem_cons_succ, List.getElem_cons_zero, Act.put, List.setIfInBounds_toArray, List.set_cons_zero, List.set_cons_succ]
              have b2 := below_new W1 (.cells #[] 3)
              have o2 := own_empty W1 3 1
              have s1 := HS1.out.later b2
              have s2 := HS2.out.later b2
              refine wpAnyH_ready (rs := [0]) (by kernel_rfl) (by simp) ?_
              refine AllReadyH.cons rfl (fun K hK => ?_) AllReadyH.nil
              go_simp
              refine hK.out _ _ trivial (fun _ => ?_)
              clear hK K
              try simp only [List.getElem_toArray, List.getElem_cons_succ, List.getElem_cons_zero, Act.put, List.setIfInBounds_toArray, List.set_cons_zero, List.set_cons_succ]
              refine wpAnyH_ready (rs := [4]) (by kernel_rfl) (by simp) ?_
              refine AllReadyH.cons rfl (fun K hK => ?_) AllReadyH.nil
              rw [if_pos (by rfl)]
              refine wp_append_src (.tmp 129) (.tmp 132) _ (by rfl) W1.heap.size 3 i0 _ 1 8 Try.underlying24 hi hz0 hz1 hz2 rfl (by omega) (.slice (some ⟨W1.heap.size, 0, none⟩) 0 0) 0 [] (by rfl) o2 (.slice (some ⟨gw, ow, none⟩) kk cw) kk (nums (ys.take kk)) (by rfl) s1 (nums_one _) (by simp only [maxLen]; omega) (by omega) (by simp) ?_
              intro v3 w3 o3 g3 hv3
              rw [Nat.zero_add, List.nil_append] at o3
              have b3 := below_own b2 g3 (by simp) (by intro g hg; cases hg; exact Nat.le_refl _)
              have s3 := HS2.out.later b3
              have b3s := b3.size
              obtain ⟨A3, c3, rfl, _, _⟩ := (sliceAt_of_own o3).form
              refine hK.out _ _ trivial (fun _ => ?_)
              clear hK K
              try simp only [List.getElem_toArray, List.getElem_cons_succ, List.getElem_cons_zero, Act.put, List.setIfInBounds_toArray, List.set_cons_zero, List.set_cons_succ]
              refine wpAnyH_ready (rs := [9]) (by kernel_rfl) (by simp) ?_
              refine AllReadyH.cons rfl (fun K hK => ?_) AllReadyH.nil
              rw [if_pos (by rfl)]
              refine wp_append_src (.tmp 133) (.tmp 137) _ (by rfl) W1.heap.size 3 i0 _ 1 8 Try.underlying24 hi hz0 hz1 hz2 rfl (by omega) (.slice A3 kk c3) kk (nums (ys.take kk)) (by rfl) o3 (.slice (if cw = j then some ⟨gw, ow, none⟩ else some ⟨gw, ow + j, none⟩) (ys.length - j) (cw - j)) (ys.length - j) (nums (ys.drop j)) (by rfl) s3 (nums_one _) (by simp only [maxLen]; omega) (by omega) b3s ?_
              intro v4 w4 o4 g4 hv4
              have o4' : w4.ownsRow W1.heap.size 3 1 v4 zs.length (nums zs) := by
                have h1 := HZ.out
                have h2 := HZL.out
                have h3 := HJ.out
                rw [← h3] at h1
                rw [show zs.length = kk + (ys.length - j) by omega, h1, show nums (ys.take kk ++ ys.drop j) = nums (ys.take kk) ++ nums (ys.drop j) by simp [ints]]
                exact o4
              have b4 := below_own b3 g4 b3s (fun g hg => (own_base o3 hg).1)
              have S5 := S4.fresh b4 o4'
              obtain ⟨A4, c4, rfl, _, _⟩ := (sliceAt_of_own o4').form
              refine hK.out _ _ trivial (fun _ => ?_)
              clear hK K
              try simp only [List.getElem_toArray, List.getElem_cons_succ, List.getElem_cons_zero, Act.put, List.setIfInBounds_toArray, List.set_cons_zero, List.set_cons_succ]
              refine wpAnyH_take (i := 10) (v := ?_) rfl (by kernel_rfl) (by kernel_rfl) (by kernel_rfl) (fun _ _ _ h => h) (Or.inl ⟨by rfl, ?_⟩) (by assumption) ?_
              rotate_left
              · intro w hSw
                try dsimp only at hSw
                go_simp
                try with_reducible rfl
              simp only [List.getElem_toArray, List.getElem_cons_succ, List.getElem_cons_zero, Act.put, List.setIfInBounds_toArray, List.set_cons_zero, List.set_cons_succ]
              refine wpAnyH_done (by kernel_rfl) ?_ _
              clear b2 o2 s1 s2 o3 g3 hv3 b3 s3 o4 g4 hv4 o4' b4 HS1 HS2
              generalize (if cw = j then (some ⟨gw, ow, none⟩ : Option Addr) else some ⟨gw, ow + j, none⟩) = P2
              go_wp2_with fail
              refine (Ints_g _ _ zs zs true _ (by simp) (sliceAt_of_own S5.q) (sliceAt_of_own S5.t) (by have := HZL.out; omega)).mono ?_
              rintro e w5 ⟨rfl, b5⟩
              have S6 := S5.later b5
              go_wp2
              go_roundw
              case rel => exact ⟨k + 1, _, _, zs, by omega, rfl, rfl, by go_num, by have := HZL.out; omega, S6⟩
              case measure => simp [intOf]; omega
            · skip
              have hv : (decide (0 ≤ xb) = false) ∨ (decide (0 ≤ xb) = true ∧ decide (xb < (ys.length : Int)) = false) := by
                by_cases h : 0 ≤ xb
                · exact .inr ⟨decide_eq_true h, decide_eq_false (by omega)⟩
                · exact .inl (decide_eq_false h)
              have u3 : decide (most < (ys.length : Int)) = false := decide_eq_false (by omega)
              rcases hv with v1 | ⟨v1, v2⟩
              all_goals
                go_wp2_with fail
                refine (First_g _ ys (firstV ys) true _ rfl HBD.out (sliceAt_of_own S1.q)).mono ?_
                rintro e w' ⟨rfl, rfl⟩
                go_wp2_with fail
                refine (Take_no _ ys xb _ (sliceAt_of_own S1.q) (by omega) (by omega)).mono ?_
                rintro e w1 ⟨b1, A1, c1', rfl, o1⟩
                have S3 := S1.push b1 o1
                obtain ⟨gw, ow, cw', hvw, _, _, hbw, hcw⟩ := (sliceAt_of_own S3.t).pos (by omega)
                obtain ⟨rfl, _, rfl⟩ := Value.slice.inj hvw
                have r0 := hcw 0 (.int .i64 (firstV ys)) (by cases ys with | nil => simp at hL0 | cons y ys => simp [ints, firstV])
                rw [Nat.add_zero] at r0
                clear hcw hvw
                clear d0 d1 d2 aA b1 o1 S1 S bA
                go_wp2_with fail
                refine (Ints_g _ _ ys ys true _ (by simp) (sliceAt_of_own S3.q) (sliceAt_of_own S3.t) (by omega)).mono ?_
                rintro e w3 ⟨rfl, b3⟩
                have S4 := S3.later b3
                go_wp2
                go_roundw
                case rel => exact ⟨k + 1, _, _, ys, by omega, rfl, rfl, by go_num, by omega, S4⟩
                case measure => simp [intOf]; omega
    · obtain rfl : k = xs.length := by omega
      go_wp2_with fail
      refine (wakes_c _).mono ?_
      rintro e w9 ⟨rfl, b9⟩
      go_wp2
      go_ret
      exact ⟨rfl, below_step S.below b9⟩
theorem walk (v : Value) (xs : List (Int × Int × Int)) (most : Int) (w : World) (hs : SliceAt w 3 v xs.length (deeds xs)) :
    Calls Try.prog 3 #[.int .i64 most, v] w fun e w' => e = .returned (.bool true) ∧ Below w.heap.size w w' := by
  obtain ⟨Ax, cx, rfl, _⟩ := hs.form
  by_cases m1 : 0 ≤ most
  · by_cases m2 : most ≤ 10
    · by_cases h2 : xs.length ≤ 60
      · exact walk_good _ xs most w hs m1 m2 h2
      · have q1 : decide (most < 0) = false := decide_eq_false (by omega)
        have q2 : decide (10 < most) = false := decide_eq_false (by omega)
        have q3 : decide ((60 : Int) < (xs.length : Int)) = true := decide_eq_true (by omega)
        go_enter Try.func3, Try.ntmps3
        go_wp2_with fail
        refine (wakes_c _).mono ?_
        rintro e w9 ⟨rfl, b9⟩
        go_wp2
        go_ret
        exact ⟨rfl, b9⟩
    · have q1 : decide (most < 0) = false := decide_eq_false (by omega)
      have q2 : decide (10 < most) = true := decide_eq_true (by omega)
      go_enter Try.func3, Try.ntmps3
      go_wp2_with fail
      refine (wakes_c _).mono ?_
      rintro e w9 ⟨rfl, b9⟩
      go_wp2
      go_ret
      exact ⟨rfl, b9⟩
  · have q1 : decide (most < 0) = true := decide_eq_true (by omega)
    go_enter Try.func3, Try.ntmps3
    go_wp2_with fail
    refine (wakes_c _).mono ?_
    rintro e w9 ⟨rfl, b9⟩
    go_wp2
    go_ret
    exact ⟨rfl, b9⟩
theorem open_deeds {H : Type} {enc : TypeId × Value → H} {w : World} {base : Nat} {v : Value} {d : DataW H} {p : List MemPlace}
    (hv : Value.okWide Try.prog w .any base 22 v) (h : DataW.Trod enc Try.prog w 0 (fun _ => true) true 22 v d p) :
    ∃ xs : List (Int × Int × Int), SliceAt w 3 v xs.length (deeds xs) := by
  exact open_arg (sz := 3) (fun x : Int × Int × Int => [.int .i64 x.1, .int .i64 x.2.1, .int .i64 x.2.2]) (fun _ => True) (fun _ => rfl) (by omega) Try.underlying22 (by kernel_rfl)
    (fun m cs x hl ht' => by
      obtain ⟨ys, n, _, _, _, hlen, hel⟩ := DataW.trod_struct Try.underlying26 ht'
      match cs, hl with
      | [c0, c1, c2], _ =>
        have hce : Try.prog.cellsOf 3 = 1 := by kernel_rfl
        match ys, hlen with
        | [y0, y1, y2], _ =>
          have e0 := hel 0 _ rfl
          have e1 := hel 1 _ rfl
          have e2 := hel 2 _ rfl
          change DataW.trod enc Try.prog w 0 (fun _ => true) true n 3 (List.take (Try.prog.cellsOf 3) [c0, c1, c2]) = some y0 at e0
          change DataW.trod enc Try.prog w 0 (fun _ => true) true n 3 (List.take (Try.prog.cellsOf 3) [c1, c2]) = some y1 at e1
          change DataW.trod enc Try.prog w 0 (fun _ => true) true n 3 (List.take (Try.prog.cellsOf 3) [c2]) = some y2 at e2
          rw [hce] at e0 e1 e2
          obtain ⟨a, ha, _, _⟩ := DataW.trod_int Try.underlying3 (show DataW.trod enc Try.prog w 0 (fun _ => true) true n 3 [c0] = some y0 from e0)
          obtain ⟨b, hb, _, _⟩ := DataW.trod_int Try.underlying3 (show DataW.trod enc Try.prog w 0 (fun _ => true) true n 3 [c1] = some y1 from e1)
          obtain ⟨c, hc, _, _⟩ := DataW.trod_int Try.underlying3 (show DataW.trod enc Try.prog w 0 (fun _ => true) true n 3 [c2] = some y2 from e2)
          obtain rfl := List.cons.inj ha |>.1
          obtain rfl := List.cons.inj hb |>.1
          obtain rfl := List.cons.inj hc |>.1
          exact ⟨(a, b, c), trivial, rfl⟩) hv h |>.imp fun _ h => h.1

theorem own : ownKnob Try.prog.godebug = none := by kernel_rfl
theorem laidOut : laidOutB Try.prog = true := by kernel_rfl
noncomputable def wit (os : Os) : World := World.holding Try.prog os ⟨#[], #[], []⟩
set_option maxRecDepth 100000 in
theorem lifted (os : Os) (started : os.Started) (H : Type) (enc : TypeId × Value → H) (F : Stop.Interp) :
    ReturnsInHanded {} Try.checked os 3 .any ((OpenSpec.ofChange Rows.queueOrderSpec).preRow enc Try.prog Try.f3 Rows.queueOrderRow.domain false Rows.queueOrderRow.laid) (((OpenSpec.ofChange Rows.queueOrderSpec).at F).post enc Try.prog Try.f3 false true false false) := by
  obtain ⟨x, hx⟩ : ∃ x, DataW.whole enc Try.prog ((wit os).forCall (fun _ _ => 0) ⟨#[], #[.int .i64 0, .slice none 0 0], []⟩).memory Try.f3.params.toList Rows.queueOrderSpec.vars false (#[.int .i64 0, .slice none 0 0] : Array Value).toList 8 = some x := Option.isSome_iff_exists.1 (by kernel_rfl)
  refine Fr.lift (C := Try.checked) (s := OpenSpec.ofChange Rows.queueOrderSpec) own started (by kernel_rfl) Try.func3
    (witness_row_at (enc := enc) (C := Try.checked) false (wit os) #[.int .i64 0, .slice none 0 0] rfl (by kernel_rfl) (by kernel_rfl) (by kernel_rfl)
      (OpenSpec.preRow_of_cond 8 hx rfl (fun k hk => by cases hk) (by kernel_rfl) (laidMet_of_run' 8 (by kernel_rfl) (by kernel_rfl))))
    laidOut (by kernel_rfl) rfl Try.underlying4 rfl rfl ?_ ?_
  · intro ds hds
    match ds, hds with
    | [_, _], _ => rfl
  · intro W base args ds before hval hA hlt _ hz hL
    rw [Try.params3] at hA hval
    obtain ⟨v0, vs0, d0, ds0, p0, q0, hargs, rfl, rfl, h0, r0⟩ := trodAll_cons hA
    obtain ⟨v1, vs1, d1, ds1, p1, q1, rfl, rfl, rfl, h1, r1⟩ := trodAll_cons r0
    obtain ⟨rfl, rfl, rfl⟩ := trodAll_nil r1
    obtain rfl : args = #[v0, v1] := by cases args; simp_all
    obtain ⟨a0, rfl, rfl, rfl, w0⟩ := open_int Try.underlying3 (hval 0 _ v0 rfl rfl) h0
    obtain ⟨xs, hxs⟩ := open_deeds (hval 1 _ v1 rfl rfl) h1
    exact walk v1 xs a0 W hxs

theorem said : Rows.QueueOrderSaid :=
  OpenClaim.holds_of_cond 3 Try.f3 rfl rfl rfl rfl rfl rfl rfl ⟨rfl, rfl, rfl, rfl, rfl⟩ rfl rfl rfl rfl rfl (by kernel_rfl) Try.func3 (by kernel_rfl)
    (of_decide_eq_true (by kernel_rfl)) (by unfold Func.isWrapper; first | (rw [if_pos (by decide +kernel)]; kernel_rfl) | (rw [if_neg (by decide +kernel)]; exact ⟨rfl, rfl⟩))
    (fun os started H enc _ F => by rw [OpenClaim.pre_eq_preRow]; exact lifted os started H enc F)
#print axioms said
end Go.Proofs.Ytdniapakoolbjaa.queueOrder
