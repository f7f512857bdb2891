/- Routes: contracts of Needs, and the document's Needs. Nothing that was there is turned. -/
import Derived.Test.YtppcdmbpbbjecaaGreatAspE
import Derived.Deep.CutRange
namespace Go.Proofs.YtppcdmbpbbjecaaGreat
open Go.RowKit Rf Mem Bv AM
attribute [local go_sem ↓] run_max2 run_min2
theorem filter_take_yes {α : Type} (p : α → Bool) (l : List α) (k : Nat) (x : α) (hx : l[k]? = some x) (hp : p x = true) : (l.take (k + 1)).filter p = (l.take k).filter p ++ [x] := by
  rw [List.take_add_one, hx, List.filter_append]; simp [hp]
theorem filter_take_no {α : Type} (p : α → Bool) (l : List α) (k : Nat) (x : α) (hx : l[k]? = some x) (hp : p x = false) : (l.take (k + 1)).filter p = (l.take k).filter p := by
  rw [List.take_add_one, hx, List.filter_append]; simp [hp]
theorem row3_nil (E : TypeId) (V0 : World) : Row3 E V0 V0 (.slice none 0 0) [] := ⟨Below.refl _ _, own_nil _ _ _ _⟩
set_option maxHeartbeats 1000000 in
set_option maxRecDepth 100000 in
theorem Needs_c (cs : List Value) (q : HeldM) (w : World) (h : HeldAt w cs q) (hlen : q.needs.length ≤ 5864062014700) :
    Calls Tryz.prog 106 #[.agg cs.toArray] w fun e w' => ∃ v, e = .returned v ∧ Below w.heap.size w w' ∧ TAt w' v (needsL q) := by
  obtain ⟨i0, hi, hz0, hz1, hz2⟩ := info_parts info_need
  have b0 := below_new w (.cells cs.toArray 75)
  have G := new_at (w := w) rfl (.cells cs.toArray 75)
  have h0 := h.later b0
  have sz := held_size h.len
  obtain ⟨v5, e5, t5⟩ := h0.nd
  obtain ⟨A5, c5, rfl⟩ := t5.form
  have HE := Lib.hid e5
  have HP := Lib.hid (fun x => still2_eq q.gone q.steps.length q.opn x)
  have RG := range_of G
  obtain ⟨l, hl⟩ : ∃ l, q.needs = l := ⟨_, rfl⟩
  have HL := Lib.hid hl
  rw [hl] at t5 HE hlen
  have HT := Lib.hid t5
  clear hl t5 e5
  go_enter Tryz.func106, Tryz.ntmps106
  go_wp2_with (first | refine wpList_load_g (by rfl) 75 (.tmp 1) (by rfl) w.heap.size 0 (by rfl) cs _ RG Tryz.underlying75 rfl sz ?_ | fail)
  refine (holds_c cs q _ h0).mono ?_
  rintro e W1 ⟨b1, ga, gb, gh, rfl, HH⟩
  have y5 := cell_list (var_later G b1) HE.out
  have T1 := Lib.hid (HT.out.later b1)
  have B1 := below_step b0 b1
  clear h h0 G RG sz b1 b0
  go_wp2
  go_loopw [2, 11] (fun v i wr => ∃ k : Nat, k ≤ l.length ∧ i = .int .i64 k ∧ Row3 81 W1 wr v ((l.take k).filter (stillB q.gone q.steps.length q.opn))) (fun v i _ => l.length - (intOf i).toNat)
  case atStart => exact ⟨0, Nat.zero_le _, rfl, row3_nil _ _⟩
  case round =>
    obtain ⟨k, hk, rfl, R⟩ := hrel
    obtain ⟨m, hm⟩ : ∃ m, (l.take k).filter (stillB q.gone q.steps.length q.opn) = m := ⟨_, rfl⟩
    have hml : m.length ≤ l.length := by rw [← hm]; exact Nat.le_trans (List.length_filter_le _ _) (List.length_take_le' _ _)
    rw [hm] at R
    have HM := Lib.hid hm
    clear hm
    by_cases hkl : k < l.length
    · have i1 : (k : Int) < (l.length : Int) := by omega
      obtain ⟨x, hx⟩ : ∃ x, l[k]? = some x := ⟨_, List.getElem?_eq_getElem hkl⟩
      obtain ⟨bp, op, cc, hv', x0, x1, x2⟩ := t3_cells (T1.out.later R.bel) hx
      obtain ⟨rfl, _, rfl⟩ := Value.slice.inj hv'
      have HX := Lib.hid hx
      obtain ⟨a, b, c⟩ := x
      simp only at x0 x1 x2
      obtain ⟨r, hr⟩ : ∃ r, stillB q.gone q.steps.length q.opn (a, b, c) = r := ⟨_, rfl⟩
      have HR := Lib.hid hr
      have hx2 := HX.out
      clear hr hv' hx
      go_wp2_with fail
      have G5 := new_at (w := wr) rfl (.cells #[.int .i64 a, .int .i64 b, .int .i64 c] 81)
      have bA := below_new wr (.cells #[.int .i64 a, .int .i64 b, .int .i64 c] 81)
      replace R := R.later bA
      generalize wr.alloc (.cells #[.int .i64 a, .int .i64 b, .int .i64 c] 81) = U at *
      generalize wr.heap.size = g5 at *
      refine (still_c a b c ga gb gh (max q.gone 0) q.steps.length q.opn r _ HR.out.symm (HH.later R.bel)).mono ?_
      rintro e W2 ⟨rfl, b2⟩
      replace G5 := var_later G5 b2
      replace R := R.later b2
      clear x0 x1 x2 b2 bA
      cases r
      · have HY := Lib.hid (filter_take_no _ l k _ hx2 HR.out)
        clear hx2
        go_wp2
        go_roundw
        case rel => exact ⟨k + 1, hkl, by go_num, by rw [HY.out, HM.out]; exact R⟩
        case measure => simp [intOf]; omega
      · have HY := Lib.hid (filter_take_yes _ l k _ hx2 HR.out)
        have y0 := cell_at G5 0
        have y1 := cell_at G5 1
        have y2 := cell_at G5 2
        have bN := below_new W2 (.cells #[.int .i64 a, .int .i64 b, .int .i64 c] 81)
        have hown := (R.later bN).o
        have hsz := R.bel.size
        clear hx2
        go_wp2_with (at_builtin; refine wpList_append_src (by rfl) (.tmp 18) (.tmp 20) _ (by rfl) W1.heap.size 81 i0 _ 3 24 Tryz.underlying72 hi hz0 hz1 hz2 rfl (by omega) u2 m.length (t3s m) (by rfl) hown (.slice (some ⟨W2.heap.size, 0, none⟩) 1 1) 1 [.int .i64 a, .int .i64 b, .int .i64 c] (by rfl) (sliceAt_three (new_at rfl _) rfl) (by simp [Value.oneCell']) (by simp only [maxLen]; omega) (by omega) (by simp; omega) ?_; intro v1 w2 ho1 hg1 hw1)
        have R2 := R.push bN ho1 hg1 (m := [(a, b, c)]) rfl rfl
        go_roundw
        case rel => exact ⟨k + 1, hkl, by go_num, by rw [HY.out, HM.out]; exact R2⟩
        case measure => simp [intOf]; omega
    · obtain rfl : k = l.length := by omega
      go_wp2
      go_ret
      have e := HM.out
      rw [List.take_length] at e
      refine ⟨_, rfl, below_step B1 R.bel, ?_⟩
      obtain ⟨A, c, rfl, ht⟩ := R.at_
      have : needsL q = m := by rw [← e, needsL, HL.out]
      rw [this]; exact ht
set_option maxHeartbeats 1000000 in
set_option maxRecDepth 100000 in
theorem refNeeds_c (cs : List Value) (q : HeldM) (w : World) (h : HeldAt w cs q) (hlen : q.needs.length ≤ 5864062014700) :
    Calls Tryz.prog 111 #[.agg cs.toArray] w fun e w' => ∃ v, e = .returned v ∧ Below w.heap.size w w' ∧ TAt w' v (needsL q) := by
  obtain ⟨i0, hi, hz0, hz1, hz2⟩ := info_parts info_need
  have b0 := below_new w (.cells cs.toArray 75)
  have G := new_at (w := w) rfl (.cells cs.toArray 75)
  have h0 := h.later b0
  obtain ⟨v5, e5, t5⟩ := h0.nd
  obtain ⟨A5, c5, rfl⟩ := t5.form
  obtain ⟨v3, e3, t3⟩ := h0.st
  obtain ⟨A3, c3, rfl⟩ := t3.form
  have HE5 := Lib.hid e5
  have HE3 := Lib.hid e3
  have HE7 := Lib.hid h.gone
  have HE20 := Lib.hid h.opn
  obtain ⟨l, hl⟩ : ∃ l, q.needs = l := ⟨_, rfl⟩
  have HL := Lib.hid hl
  rw [hl] at t5 HE5 hlen
  have HT := Lib.hid t5
  obtain ⟨n, hn⟩ : ∃ n, q.steps.length = n := ⟨_, rfl⟩
  obtain ⟨o, ho⟩ : ∃ o, q.opn = o := ⟨_, rfl⟩
  obtain ⟨g, hg⟩ : ∃ g, q.gone = g := ⟨_, rfl⟩
  obtain ⟨p, hp⟩ : ∃ p, stillB q.gone q.steps.length q.opn = p := ⟨_, rfl⟩
  have HP := Lib.hid hp
  rw [hn, ho, hg] at HP
  rw [hn] at HE3
  rw [hg] at HE7
  rw [ho] at HE20
  have HPq := Lib.hid hp
  clear hl hn ho hg hp t5 t3 e5 e3 h h0
  go_enter Tryz.func111, Tryz.ntmps111
  go_upto_region 2 with (fail)
  generalize w.alloc (.cells cs.toArray 75) = W0 at *
  go_wp2
  go_loopw [3, 4] (fun v i wr => ∃ k : Nat, k ≤ l.length ∧ i = .int .i64 k ∧ Row3 81 W0 wr v ((l.take k).filter p)) (fun v i _ => l.length - (intOf i).toNat)
  case atStart => exact ⟨0, Nat.zero_le _, rfl, row3_nil _ _⟩
  case round =>
    obtain ⟨k, hk, rfl, R⟩ := hrel
    obtain ⟨m, hm⟩ : ∃ m, (l.take k).filter p = m := ⟨_, rfl⟩
    have hml : m.length ≤ l.length := by rw [← hm]; exact Nat.le_trans (List.length_filter_le _ _) (List.length_take_le' _ _)
    rw [hm] at R
    have HM := Lib.hid hm
    clear hm
    have GH := var_later G R.bel
    have y5 := cell_list GH HE5.out
    by_cases hkl : k < l.length
    · have i1 : (k : Int) < (l.length : Int) := by omega
      obtain ⟨x, hx⟩ : ∃ x, l[k]? = some x := ⟨_, List.getElem?_eq_getElem hkl⟩
      obtain ⟨bp, op, cc, hv', x0, x1, x2⟩ := t3_cells (HT.out.later R.bel) hx
      obtain ⟨rfl, _, rfl⟩ := Value.slice.inj hv'
      have HX := Lib.hid hx
      obtain ⟨a, b, c⟩ := x
      simp only at x0 x1 x2
      obtain ⟨r, hr⟩ : ∃ r, p (a, b, c) = r := ⟨_, rfl⟩
      have HR := Lib.hid hr
      have hx2 := HX.out
      clear hr hv' hx
      go_upto_region 6 with (fail)
      have G5 := new_at (w := wr) rfl (.cells #[.int .i64 a, .int .i64 b, .int .i64 c] 81)
      have bA := below_new wr (.cells #[.int .i64 a, .int .i64 b, .int .i64 c] 81)
      replace R := R.later bA
      replace GH := var_later GH bA
      generalize wr.alloc (.cells #[.int .i64 a, .int .i64 b, .int .i64 c] 81) = U at *
      generalize wr.heap.size = g5 at *
      clear x0 x1 x2 bA
      have y0 := cell_at G5 0
      have y1 := cell_at G5 1
      have y2 := cell_at G5 2
      have z3 := cell_list GH HE3.out
      have z7 := cell_list GH HE7.out
      have z20 := cell_list GH HE20.out
      have hrr : r = (decide (max g 0 ≤ c) && ((c != (n : Int)) || !o)) := by rw [← HR.out, ← HP.out]; rfl
      clear y5
      go_cut [37] from 6 to 41 (fun v wx => v = .bool r ∧ wx = U)
      case first =>
        obtain ⟨d1, hd1⟩ : ∃ d, decide (max g 0 ≤ c) = d := ⟨_, rfl⟩
        obtain ⟨d2, hd2⟩ : ∃ d, (c == (n : Int)) = d := ⟨_, rfl⟩
        have hd3 : (c != (n : Int)) = !d2 := by rw [← hd2]; rfl
        rw [hd1, hd3] at hrr
        have HRR := Lib.hid hrr
        clear hrr hd3
        cases d1 <;> cases d2 <;> cases o
        all_goals
          go_wp2
          go_meet
          exact ⟨by rw [HRR.out]; rfl, rfl⟩
      case rest =>
        clear z3 z7 z20 hrr
        obtain ⟨rfl, rfl⟩ := hcut
        cases r
        · have HY := Lib.hid (filter_take_no _ l k _ hx2 HR.out)
          clear hx2
          go_wp2
          go_roundw
          case rel => exact ⟨k + 1, hkl, by go_num, by rw [HY.out, HM.out]; exact R⟩
          case measure => simp [intOf]; omega
        · have HY := Lib.hid (filter_take_yes _ l k _ hx2 HR.out)
          have bN := below_new wc (.cells #[.int .i64 a, .int .i64 b, .int .i64 c] 81)
          have hown := (R.later bN).o
          have hsz := R.bel.size
          clear hx2
          go_wp2_with (at_builtin; refine wpList_append_src (by rfl) (.tmp 38) (.tmp 40) _ (by rfl) W0.heap.size 81 i0 _ 3 24 Tryz.underlying72 hi hz0 hz1 hz2 rfl (by omega) u3 m.length (t3s m) (by rfl) hown (.slice (some ⟨wc.heap.size, 0, none⟩) 1 1) 1 [.int .i64 a, .int .i64 b, .int .i64 c] (by rfl) (sliceAt_three (new_at rfl _) rfl) (by simp [Value.oneCell']) (by simp only [maxLen]; omega) (by omega) (by simp; omega) ?_; intro v1 w2 ho1 hg1 hw1)
          have R2 := R.push bN ho1 hg1 (m := [(a, b, c)]) rfl rfl
          go_roundw
          case rel => exact ⟨k + 1, hkl, by go_num, by rw [HY.out, HM.out]; exact R2⟩
          case measure => simp [intOf]; omega
    · obtain rfl : k = l.length := by omega
      go_wp2
      go_ret
      have e := HM.out
      rw [List.take_length] at e
      refine ⟨_, rfl, below_step b0 R.bel, ?_⟩
      obtain ⟨A, c, rfl, ht⟩ := R.at_
      have : needsL q = m := by rw [← e, needsL, HL.out, HPq.out]
      rw [this]; exact ht
end Go.Proofs.YtppcdmbpbbjecaaGreat
