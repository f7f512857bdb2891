/- Routes: contracts of Proves, Clear. Nothing that was there is turned. -/
import Derived.Test.YtppcdmbpbbjecaaGreatAspF
namespace Go.Proofs.YtppcdmbpbbjecaaGreat
open Go.RowKit Rf Mem Bv AM
attribute [local go_sem ↓] run_max2 run_min2
theorem any_neq {α : Type} (l : List α) (f g : α → Int) : (!(l.any fun x => f x != g x)) = l.all fun x => f x == g x := by
  rw [show (fun x => f x != g x) = (fun x => !(f x == g x)) from rfl, ← List.not_all_eq_any_not, Bool.not_not]
set_option maxHeartbeats 1000000 in
set_option maxRecDepth 100000 in
theorem Proves_c (I : IM) (L M cs : List Value) (q : HeldM) (r : Bool) (w : World) (hr : r = provesB I.stand q) (h : IMA I L M w) (hq : HeldAt w cs q) (hlen : q.needs.length ≤ 5864062014700) :
    Calls Tryz.prog 124 #[.agg L.toArray, .agg M.toArray, .agg cs.toArray] w fun e w' => e = .returned (.bool r) ∧ Below w.heap.size w w' := by
  have b0 := below_new w (.cells L.toArray 29)
  have b1 := below_new (w.alloc (.cells L.toArray 29)) (.cells M.toArray 35)
  have b2 := below_new ((w.alloc (.cells L.toArray 29)).alloc (.cells M.toArray 35)) (.cells cs.toArray 75)
  have V : V2 ((w.alloc (.cells L.toArray 29)).alloc (.cells M.toArray 35)) w.heap.size (w.heap.size + 1) L M := ⟨old_at (new_at rfl _) _, new_at (by simp) _⟩
  replace V := V.later b2
  have G := new_at (n := w.heap.size + 1 + 1) (w := (w.alloc (.cells L.toArray 29)).alloc (.cells M.toArray 35)) (by simp) (.cells cs.toArray 75)
  have B := below_step (below_step b0 b1) b2
  have h0 := h.later B
  have hq0 := hq.later B
  have sz := held_size hq.len
  have HR := Lib.hid hr
  have RG := range_of G
  clear hr h hq b0 b1 b2 G
  go_enter Tryz.func124, Tryz.ntmps124
  go_upto_region 1 with (fail)
  generalize ((w.alloc (.cells L.toArray 29)).alloc (.cells M.toArray 35)).alloc (.cells cs.toArray 75) = W0 at *
  go_wp2_with (first | refine wpList_load_g (by rfl) 75 (.tmp 5) (by rfl) (w.heap.size + 1 + 1) 0 (by rfl) cs _ RG Tryz.underlying75 rfl sz ?_ | fail)
  refine (Needs_c cs q _ hq0 hlen).mono ?_
  rintro e W1 ⟨v, rfl, b3, T⟩
  go_wp2_with fail
  obtain ⟨p, hp⟩ : ∃ p, (needsL q).any (fun x => I.stand x.1 != x.2.1) = p := ⟨_, rfl⟩
  have HP := Lib.hid hp
  clear hp
  refine (containsNeed_c I L M w.heap.size (w.heap.size + 1) (needsL q) v p _ HP.out.symm (h0.later b3) (V.later b3) T (Nat.le_trans (List.length_filter_le _ _) hlen)).mono ?_
  rintro e W2 ⟨rfl, b4⟩
  replace B := below_step (below_step B b3) b4
  clear V h0 RG b3 b4 T
  go_wp2
  go_ret
  exact ⟨by rw [HR.out, provesB, ← any_neq, HP.out]; rfl, B⟩
set_option maxHeartbeats 1000000 in
set_option maxRecDepth 100000 in
theorem Clear_c (I : IM) (L M cs : List Value) (q : HeldM) (r : Bool) (w : World) (hr : r = clearB I.stand I.occB I.litB q) (h : IMA I L M w) (hq : HeldAt w cs q) (hlen : q.needs.length ≤ 5864062014700) (hl1 : q.steps.length ≤ 5864062014700) (hl2 : q.over.length ≤ 5864062014700) :
    Calls Tryz.prog 108 #[.agg L.toArray, .agg M.toArray, .agg cs.toArray] w fun e w' => e = .returned (.bool r) ∧ Below w.heap.size w w' := by
  have b0 := below_new w (.cells L.toArray 29)
  have b1 := below_new (w.alloc (.cells L.toArray 29)) (.cells M.toArray 35)
  have b2 := below_new ((w.alloc (.cells L.toArray 29)).alloc (.cells M.toArray 35)) (.cells cs.toArray 75)
  have V : V2 ((w.alloc (.cells L.toArray 29)).alloc (.cells M.toArray 35)) w.heap.size (w.heap.size + 1) L M := ⟨old_at (new_at rfl _) _, new_at (by simp) _⟩
  replace V := V.later b2
  have G := new_at (n := w.heap.size + 1 + 1) (w := (w.alloc (.cells L.toArray 29)).alloc (.cells M.toArray 35)) (by simp) (.cells cs.toArray 75)
  have B := below_step (below_step b0 b1) b2
  have h0 := h.later B
  have hq0 := hq.later B
  have sz := held_size hq.len
  have szL := lay_size h.f.l.len
  have szM := img_size h.f.m.len
  obtain ⟨d0, hd0⟩ : ∃ d, (q.stage == 2) = d := ⟨_, rfl⟩
  obtain ⟨d1, hd1⟩ : ∃ d, I.litB q.sig = d := ⟨_, rfl⟩
  obtain ⟨d2, hd2⟩ : ∃ d, q.steps.any (fun s => I.occB s.1) = d := ⟨_, rfl⟩
  obtain ⟨d3, hd3⟩ : ∃ d, q.over.any (fun s => I.occB s.1) = d := ⟨_, rfl⟩
  obtain ⟨d4, hd4⟩ : ∃ d, provesB I.stand q = d := ⟨_, rfl⟩
  have e2 : (q.steps.all fun s => !I.occB s.1) = !d2 := by rw [← hd2, List.not_any_eq_all_not]
  have e3 : (q.over.all fun s => !I.occB s.1) = !d3 := by rw [← hd3, List.not_any_eq_all_not]
  rw [clearB, hd0, hd1, e2, e3, hd4] at hr
  have HR := Lib.hid hr
  have H1 := Lib.hid hd1.symm
  have H2 := Lib.hid hd2.symm
  have H3 := Lib.hid hd3.symm
  have H4 := Lib.hid hd4.symm
  have HF := Lib.hid h.f
  clear hr h hq b0 b1 b2 hd1 hd2 hd3 hd4 e2 e3
  obtain ⟨v3, e3, t3⟩ := hq0.st
  obtain ⟨v4, e4, t4⟩ := hq0.ov
  have HE3 := Lib.hid e3
  have HE4 := Lib.hid e4
  have HT3 := Lib.hid t3
  have HT4 := Lib.hid t4
  clear e3 e4 t3 t4
  have hne : (q.stage != 2) = !d0 := by rw [← hd0]; rfl
  go_enter Tryz.func108, Tryz.ntmps108
  go_upto_region 1 with (fail)
  generalize ((w.alloc (.cells L.toArray 29)).alloc (.cells M.toArray 35)).alloc (.cells cs.toArray 75) = W0 at *
  have y6 := cell_list G hq0.stage
  have y1 := cell_list G hq0.sig
  refine wp_scope_fwd 0 (by simp only [findLabel]; rfl) ?_
  cases d0
  · go_wp2
    go_step3
    go_wp2
    rw [jump_goto]
    go_wp2
    rw [Exit.noGoto_ret]
    exact bodyPost_ret (results_tmp rfl _ _ _) rfl ⟨by rw [HR.out]; rfl, B⟩
  have RL := range_of V.l
  have RM := range_of V.m
  go_wp2_with (first | refine wpList_load_g (by rfl) 29 (.tmp 3) (by rfl) w.heap.size 0 (by rfl) L _ RL Tryz.underlying29 rfl szL ?_ | refine wpList_load_g (by rfl) 35 (.tmp 4) (by rfl) (w.heap.size + 1) 0 (by rfl) M _ RM Tryz.underlying35 rfl szM ?_ | fail)
  refine (lit_c I L M q.sig d1 _ H1.out HF.out).mono ?_
  rintro e W1 ⟨rfl, b3⟩
  replace V := V.later b3
  replace G := var_later G b3
  replace h0 := h0.later b3
  replace hq0 := hq0.later b3
  have T3 := Lib.hid (HT3.out.later b3)
  have T4 := Lib.hid (HT4.out.later b3)
  replace B := below_step B b3
  clear b3 y6 y1 RL RM
  cases d1
  · go_wp2
    go_step3
    go_wp2
    rw [jump_goto]
    go_wp2
    rw [Exit.noGoto_ret]
    exact bodyPost_ret (results_tmp rfl _ _ _) rfl ⟨by rw [HR.out]; rfl, B⟩
  have y3 := cell_list G HE3.out
  go_wp2_with fail
  refine (containsStep_c I L M w.heap.size (w.heap.size + 1) q.steps v3 d2 _ H2.out HF.out V T3.out hl1).mono ?_
  rintro e W2 ⟨rfl, b3⟩
  replace V := V.later b3
  replace G := var_later G b3
  replace h0 := h0.later b3
  replace hq0 := hq0.later b3
  replace T4 := Lib.hid (T4.out.later b3)
  replace B := below_step B b3
  clear b3 y3 T3
  cases d2
  rotate_left
  · go_wp2
    go_step3
    go_wp2
    rw [jump_goto]
    go_wp2
    rw [Exit.noGoto_ret]
    exact bodyPost_ret (results_tmp rfl _ _ _) rfl ⟨by rw [HR.out]; rfl, B⟩
  have y4 := cell_list G HE4.out
  go_wp2_with fail
  refine (containsStep_c I L M w.heap.size (w.heap.size + 1) q.over v4 d3 _ H3.out HF.out V T4.out hl2).mono ?_
  rintro e W3 ⟨rfl, b3⟩
  replace V := V.later b3
  replace G := var_later G b3
  replace h0 := h0.later b3
  replace hq0 := hq0.later b3
  replace B := below_step B b3
  clear b3 y4 T4
  cases d3
  rotate_left
  · go_wp2
    go_step3
    go_wp2
    rw [jump_goto]
    go_wp2
    rw [Exit.noGoto_ret]
    exact bodyPost_ret (results_tmp rfl _ _ _) rfl ⟨by rw [HR.out]; rfl, B⟩
  have RL := range_of V.l
  have RM := range_of V.m
  have RG := range_of G
  go_wp2_with (first | refine wpList_load_g (by rfl) 29 (.tmp 3) (by rfl) w.heap.size 0 (by rfl) L _ RL Tryz.underlying29 rfl szL ?_ | refine wpList_load_g (by rfl) 35 (.tmp 4) (by rfl) (w.heap.size + 1) 0 (by rfl) M _ RM Tryz.underlying35 rfl szM ?_ | refine wpList_load_g (by rfl) 75 (.tmp 5) (by rfl) (w.heap.size + 1 + 1) 0 (by rfl) cs _ RG Tryz.underlying75 rfl sz ?_ | fail)
  refine (Proves_c I L M cs q d4 _ H4.out h0 hq0 hlen).mono ?_
  rintro e W4 ⟨rfl, b3⟩
  replace B := below_step B b3
  clear b3 RL RM RG
  go_wp2
  rw [jump_ret]
  exact bodyPost_ret (results_tmp rfl _ _ _) rfl ⟨by rw [HR.out]; cases d4 <;> rfl, B⟩
end Go.Proofs.YtppcdmbpbbjecaaGreat
