/- Routes: contracts of Needs, and the document's Needs. Nothing that was there is turned. -/
import Derived.Test.YtbeijbhgpddbmaaAspE
import Derived.Deep.CutRange
namespace Go.Proofs.Ytbeijbhgpddbmaa
open Go.RowKit Rf Mem Bv AM
attribute [local go_sem ↓] run_max2 run_min2
theorem filter_take_yes {α : Type} (p : α → Bool) (l : List α) (k : Nat) (x : α) (hx : l[k]? = some x) (hp : p x = true) : (l.take (k + 1)).filter p = (l.take k).filter p ++ [x] := by
  rw [List.take_add_one, hx, List.filter_append]; simp [hp]
theorem filter_take_no {α : Type} (p : α → Bool) (l : List α) (k : Nat) (x : α) (hx : l[k]? = some x) (hp : p x = false) : (l.take (k + 1)).filter p = (l.take k).filter p := by
  rw [List.take_add_one, hx, List.filter_append]; simp [hp]
theorem row3_nil (E : TypeId) (V0 : World) : Row3 E V0 V0 (.slice none 0 0) [] := ⟨Below.refl _ _, own_nil _ _ _ _⟩
set_option maxHeartbeats 1000000 in
set_option maxRecDepth 100000 in
theorem Needs_c (cs : List Value) (q : HeldM) (w : World) (h : HeldAt w cs q) (hlen : q.needs.length ≤ 5864062014700) :
    Calls Try.prog 74 #[.agg cs.toArray] w fun e w' => ∃ v, e = .returned v ∧ Below w.heap.size w w' ∧ TAt w' v (needsL q) := by
  obtain ⟨i0, hi, hz0, hz1, hz2⟩ := info_parts info_need
  have b0 := below_new w (.cells cs.toArray 78)
  have G := new_at (w := w) rfl (.cells cs.toArray 78)
  have h0 := h.later b0
  have sz := held_size h.len
  obtain ⟨v5, e5, t5⟩ := h0.nd
  obtain ⟨A5, c5, rfl⟩ := t5.form
  have HE := Lib.hid e5
  have HP := Lib.hid (fun x => still2_eq q.gone q.steps.length q.opn x)
  have RG := range_of G
  obtain ⟨l, hl⟩ : ∃ l, q.needs = l := ⟨_, rfl⟩
  have HL := Lib.hid hl
  rw [hl] at t5 HE hlen
  have HT := Lib.hid t5
  clear hl t5 e5
  go_enter Try.func74, Try.ntmps74
  go_wp2_with (first | refine wpList_load_g (by rfl) 78 (.tmp 1) (by rfl) w.heap.size 0 (by rfl) cs _ RG Try.underlying78 rfl sz ?_ | fail)
  refine (holds_c cs q _ h0).mono ?_
  rintro e W1 ⟨b1, ga, gb, gh, rfl, HH⟩
  have y5 := cell_list (var_later G b1) HE.out
  have T1 := Lib.hid (HT.out.later b1)
  have B1 := below_step b0 b1
  clear h h0 G RG sz b1 b0
  go_wp2
  go_loopw [2, 11] (fun v i wr => ∃ k : Nat, k ≤ l.length ∧ i = .int .i64 k ∧ Row3 84 W1 wr v ((l.take k).filter (stillB q.gone q.steps.length q.opn))) (fun v i _ => l.length - (intOf i).toNat)
  case atStart => exact ⟨0, Nat.zero_le _, rfl, row3_nil _ _⟩
  case round =>
    obtain ⟨k, hk, rfl, R⟩ := hrel
    obtain ⟨m, hm⟩ : ∃ m, (l.take k).filter (stillB q.gone q.steps.length q.opn) = m := ⟨_, rfl⟩
    have hml : m.length ≤ l.length := by rw [← hm]; exact Nat.le_trans (List.length_filter_le _ _) (List.length_take_le' _ _)
    rw [hm] at R
    have HM := Lib.hid hm
    clear hm
    by_cases hkl : k < l.length
    · have i1 : (k : Int) < (l.length : Int) := by omega
      obtain ⟨x, hx⟩ : ∃ x, l[k]? = some x := ⟨_, List.getElem?_eq_getElem hkl⟩
      obtain ⟨bp, op, cc, hv', x0, x1, x2⟩ := t3_cells (T1.out.later R.bel) hx
      obtain ⟨rfl, _, rfl⟩ := Value.slice.inj hv'
      have HX := Lib.hid hx
      obtain ⟨a, b, c⟩ := x
      simp only at x0 x1 x2
      obtain ⟨r, hr⟩ : ∃ r, stillB q.gone q.steps.length q.opn (a, b, c) = r := ⟨_, rfl⟩
      have HR := Lib.hid hr
      have hx2 := HX.out
      clear hr hv' hx
      go_wp2_with fail
      have G5 := new_at (w := wr) rfl (.cells #[.int .i64 a, .int .i64 b, .int .i64 c] 84)
      have bA := below_new wr (.cells #[.int .i64 a, .int .i64 b, .int .i64 c] 84)
      replace R := R.later bA
      generalize wr.alloc (.cells #[.int .i64 a, .int .i64 b, .int .i64 c] 84) = U at *
      generalize wr.heap.size = g5 at *
      refine (still_c a b c ga gb gh (max q.gone 0) q.steps.length q.opn r _ HR.out.symm (HH.later R.bel)).mono ?_
      rintro e W2 ⟨rfl, b2⟩
      replace G5 := var_later G5 b2
      replace R := R.later b2
      clear x0 x1 x2 b2 bA
      cases r
      · have HY := Lib.hid (filter_take_no _ l k _ hx2 HR.out)
        clear hx2
        go_wp2
        go_roundw
        case rel => exact ⟨k + 1, hkl, by go_num, by rw [HY.out, HM.out]; exact R⟩
        case measure => simp [intOf]; omega
      · have HY := Lib.hid (filter_take_yes _ l k _ hx2 HR.out)
        have y0 := cell_at G5 0
        have y1 := cell_at G5 1
        have y2 := cell_at G5 2
        have bN := below_new W2 (.cells #[.int .i64 a, .int .i64 b, .int .i64 c] 84)
        have hown := (R.later bN).o
        have hsz := R.bel.size
        clear hx2
        go_wp2_with (at_builtin; refine wpList_append_src (by rfl) (.tmp 18) (.tmp 20) _ (by rfl) W1.heap.size 84 i0 _ 3 24 Try.underlying75 hi hz0 hz1 hz2 rfl (by omega) u2 m.length (t3s m) (by rfl) hown (.slice (some ⟨W2.heap.size, 0, none⟩) 1 1) 1 [.int .i64 a, .int .i64 b, .int .i64 c] (by rfl) (sliceAt_three (new_at rfl _) rfl) (by simp [Value.oneCell']) (by simp only [maxLen]; omega) (by omega) (by simp; omega) ?_; intro v1 w2 ho1 hg1 hw1)
        have R2 := R.push bN ho1 hg1 (m := [(a, b, c)]) rfl rfl
        go_roundw
        case rel => exact ⟨k + 1, hkl, by go_num, by rw [HY.out, HM.out]; exact R2⟩
        case measure => simp [intOf]; omega
    · obtain rfl : k = l.length := by omega
      go_wp2
      go_ret
      have e := HM.out
      rw [List.take_length] at e
      refine ⟨_, rfl, below_step B1 R.bel, ?_⟩
      obtain ⟨A, c, rfl, ht⟩ := R.at_
      have : needsL q = m := by rw [← e, needsL, HL.out]
      rw [this]; exact ht
end Go.Proofs.Ytbeijbhgpddbmaa
