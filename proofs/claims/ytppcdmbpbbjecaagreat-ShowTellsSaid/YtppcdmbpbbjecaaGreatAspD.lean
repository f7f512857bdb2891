/- Routes: contracts of Needs, Proves, Clear. Nothing that was there is turned. (Printed by aspd.py.) -/
import Derived.Test.YtppcdmbpbbjecaaGreatAspC
namespace Go.Proofs.YtppcdmbpbbjecaaGreat
open Go.RowKit Rf Mem Bv AM
attribute [local go_sem ↓] run_max2 run_min2
set_option maxHeartbeats 1000000 in
set_option maxRecDepth 100000 in
theorem indexStep_c (I : IM) (L M : List Value) (gl gm : Nat) (l : List T3) (v : Value) (w : World) (h : IMF I L M) (hv : V2 w gl gm L M) (hl : TAt w v l) (hlen : l.length ≤ 5864062014700) :
    Calls Tryz.prog 129 #[v, .func (.func 121) #[] #[.pointer (some ⟨gl, 0, none⟩), .pointer (some ⟨gm, 0, none⟩)]] w fun e w' =>
      Below w.heap.size w w' ∧ ∃ r : Int, e = .returned (.int .i64 r) ∧ decide (0 ≤ r) = l.any (fun x => I.occB x.1) := by
  obtain ⟨A0, c0, rfl⟩ := hl.form
  have HT := Lib.hid hl
  obtain ⟨p, hp⟩ : ∃ p : T3 → Bool, (fun x => I.occB x.1) = p := ⟨_, rfl⟩
  rw [hp]
  have HP := Lib.hid (fun x => (congrFun hp x).symm : ∀ x : T3, p x = (I.occB x.1))
  clear hp hl
  go_enter Tryz.func129, Tryz.ntmps129
  go_wp2
  go_loopw [8] (fun i wr => ∃ k : Nat, k ≤ l.length ∧ i = .int .i64 k ∧ Below w.heap.size w wr ∧ Hid ((l.take k).any p = false)) (fun i _ => l.length - (intOf i).toNat)
  case atStart => exact ⟨0, Nat.zero_le _, rfl, Below.refl _ _, Lib.hid rfl⟩
  case round =>
    obtain ⟨k, hk, rfl, hb, HK⟩ := hrel
    by_cases hkl : k < l.length
    · have i1 : (k : Int) < (l.length : Int) := by omega
      obtain ⟨x, hx⟩ : ∃ x, l[k]? = some x := ⟨_, List.getElem?_eq_getElem hkl⟩
      obtain ⟨bp, op, cc, hv', x0, x1, x2⟩ := t3_cells (HT.out.later hb) hx
      obtain ⟨rfl, _, rfl⟩ := Value.slice.inj hv'
      have HX := Lib.hid (any_take p l k x hx)
      have HM := Lib.hid (List.mem_of_getElem? hx)
      obtain ⟨a, b, c⟩ := x
      obtain ⟨r, hr⟩ : ∃ r, p (a, b, c) = r := ⟨_, rfl⟩
      have HR := Lib.hid hr
      simp only at x0 x1 x2
      clear hv' hx hr
      go_wp2_with fail
      refine (train_c I L M gl gm a b c r _ (by rw [← HR.out, HP.out]) h (hv.later hb)).mono ?_
      rintro e W1 ⟨rfl, b1⟩
      have B := below_step hb b1
      clear x0 x1 x2 b1 hb
      cases r
      · go_wp2
        go_roundw
        case rel => exact ⟨k + 1, hkl, by go_num, B, Lib.hid (by rw [HX.out, HK.out, HR.out]; rfl)⟩
        case measure => simp [intOf]; omega
      · go_wp2
        go_ret
        exact ⟨B, k, rfl, by rw [decide_eq_true (by omega : (0 : Int) ≤ (k : Int))]; exact (List.any_eq_true.2 ⟨_, HM.out, HR.out⟩).symm⟩
    · obtain rfl : k = l.length := by omega
      go_wp2
      go_ret
      refine ⟨hb, -1, rfl, ?_⟩
      have h1 := HK.out
      rw [List.take_length] at h1
      rw [h1]; rfl
theorem containsStep_c (I : IM) (L M : List Value) (gl gm : Nat) (l : List T3) (v : Value) (r : Bool) (w : World) (hr : r = l.any (fun x => I.occB x.1)) (h : IMF I L M) (hv : V2 w gl gm L M) (hl : TAt w v l) (hlen : l.length ≤ 5864062014700) :
    Calls Tryz.prog 123 #[v, .func (.func 121) #[] #[.pointer (some ⟨gl, 0, none⟩), .pointer (some ⟨gm, 0, none⟩)]] w fun e w' => e = .returned (.bool r) ∧ Below w.heap.size w w' := by
  obtain ⟨A0, c0, rfl⟩ := hl.form
  have HR := Lib.hid hr
  have HT := Lib.hid hl
  clear hr hl
  go_enter Tryz.func123, Tryz.ntmps123
  go_wp2_with fail
  refine (indexStep_c I L M gl gm l _ _ h hv HT.out hlen).mono ?_
  rintro e W1 ⟨b1, z, rfl, hz⟩
  rw [← HR.out] at hz
  go_wp2
  go_ret
  exact ⟨rfl, b1⟩
set_option maxHeartbeats 1000000 in
set_option maxRecDepth 100000 in
theorem indexNeed_c (I : IM) (L M : List Value) (gl gm : Nat) (l : List T3) (v : Value) (w : World) (h : IMA I L M w) (hv : V2 w gl gm L M) (hl : TAt w v l) (hlen : l.length ≤ 5864062014700) :
    Calls Tryz.prog 134 #[v, .func (.func 131) #[] #[.pointer (some ⟨gl, 0, none⟩), .pointer (some ⟨gm, 0, none⟩)]] w fun e w' =>
      Below w.heap.size w w' ∧ ∃ r : Int, e = .returned (.int .i64 r) ∧ decide (0 ≤ r) = l.any (fun x => I.stand x.1 != x.2.1) := by
  obtain ⟨A0, c0, rfl⟩ := hl.form
  have HT := Lib.hid hl
  obtain ⟨p, hp⟩ : ∃ p : T3 → Bool, (fun x => I.stand x.1 != x.2.1) = p := ⟨_, rfl⟩
  rw [hp]
  have HP := Lib.hid (fun x => (congrFun hp x).symm : ∀ x : T3, p x = (I.stand x.1 != x.2.1))
  clear hp hl
  go_enter Tryz.func134, Tryz.ntmps134
  go_wp2
  go_loopw [8] (fun i wr => ∃ k : Nat, k ≤ l.length ∧ i = .int .i64 k ∧ Below w.heap.size w wr ∧ Hid ((l.take k).any p = false)) (fun i _ => l.length - (intOf i).toNat)
  case atStart => exact ⟨0, Nat.zero_le _, rfl, Below.refl _ _, Lib.hid rfl⟩
  case round =>
    obtain ⟨k, hk, rfl, hb, HK⟩ := hrel
    by_cases hkl : k < l.length
    · have i1 : (k : Int) < (l.length : Int) := by omega
      obtain ⟨x, hx⟩ : ∃ x, l[k]? = some x := ⟨_, List.getElem?_eq_getElem hkl⟩
      obtain ⟨bp, op, cc, hv', x0, x1, x2⟩ := t3_cells (HT.out.later hb) hx
      obtain ⟨rfl, _, rfl⟩ := Value.slice.inj hv'
      have HX := Lib.hid (any_take p l k x hx)
      have HM := Lib.hid (List.mem_of_getElem? hx)
      obtain ⟨a, b, c⟩ := x
      obtain ⟨r, hr⟩ : ∃ r, p (a, b, c) = r := ⟨_, rfl⟩
      have HR := Lib.hid hr
      simp only at x0 x1 x2
      clear hv' hx hr
      go_wp2_with fail
      refine (proof_c I L M gl gm a b c r _ (by rw [← HR.out, HP.out]) (h.later hb) (hv.later hb)).mono ?_
      rintro e W1 ⟨rfl, b1⟩
      have B := below_step hb b1
      clear x0 x1 x2 b1 hb
      cases r
      · go_wp2
        go_roundw
        case rel => exact ⟨k + 1, hkl, by go_num, B, Lib.hid (by rw [HX.out, HK.out, HR.out]; rfl)⟩
        case measure => simp [intOf]; omega
      · go_wp2
        go_ret
        exact ⟨B, k, rfl, by rw [decide_eq_true (by omega : (0 : Int) ≤ (k : Int))]; exact (List.any_eq_true.2 ⟨_, HM.out, HR.out⟩).symm⟩
    · obtain rfl : k = l.length := by omega
      go_wp2
      go_ret
      refine ⟨hb, -1, rfl, ?_⟩
      have h1 := HK.out
      rw [List.take_length] at h1
      rw [h1]; rfl
theorem containsNeed_c (I : IM) (L M : List Value) (gl gm : Nat) (l : List T3) (v : Value) (r : Bool) (w : World) (hr : r = l.any (fun x => I.stand x.1 != x.2.1)) (h : IMA I L M w) (hv : V2 w gl gm L M) (hl : TAt w v l) (hlen : l.length ≤ 5864062014700) :
    Calls Tryz.prog 130 #[v, .func (.func 131) #[] #[.pointer (some ⟨gl, 0, none⟩), .pointer (some ⟨gm, 0, none⟩)]] w fun e w' => e = .returned (.bool r) ∧ Below w.heap.size w w' := by
  obtain ⟨A0, c0, rfl⟩ := hl.form
  have HR := Lib.hid hr
  have HT := Lib.hid hl
  clear hr hl
  go_enter Tryz.func130, Tryz.ntmps130
  go_wp2_with fail
  refine (indexNeed_c I L M gl gm l _ _ h hv HT.out hlen).mono ?_
  rintro e W1 ⟨b1, z, rfl, hz⟩
  rw [← HR.out] at hz
  go_wp2
  go_ret
  exact ⟨rfl, b1⟩
theorem held_size {cs : List Value} (h : cs.length = 23) : (Tryz.prog.info? 75).map (·.size) = some cs.length := by rw [h]; kernel_rfl
theorem info_need : (Tryz.prog.info? 81).map (fun i => (i.zero, i.size, i.bytes)) = some (some (.agg #[.int .i64 0, .int .i64 0, .int .i64 0]), 3, 24) := by kernel_rfl
theorem info_step : (Tryz.prog.info? 79).map (fun i => (i.zero, i.size, i.bytes)) = some (some (.agg #[.int .i64 0, .int .i64 0, .int .i64 0]), 3, 24) := by kernel_rfl
theorem sliceAt_three {w : World} {g : Nat} {e : TypeId} {f : Nat × Nat} {cs : List Value} (h : w.heap[g]? = some (.cells cs.toArray e f)) (hn : cs.length = 3) : SliceAt w 3 (.slice (some ⟨g, 0, none⟩) 1 1) 1 cs :=
  ⟨some ⟨g, 0, none⟩, 1, rfl, Nat.le_refl _, by simp [maxLen], by simp [hn], .inr ⟨g, 0, rfl, (Array.getElem?_eq_some_iff.1 h).1, fun i u hu => by rw [Nat.zero_add]; exact cell_list h hu⟩⟩
/-- a row of triples that the call owns; V0: the world behind its variables -/
structure Row3 (E : TypeId) (V0 W : World) (v : Value) (l : List T3) : Prop where
  bel : Below V0.heap.size V0 W
  o : W.ownsRow V0.heap.size E 3 v l.length (t3s l)
theorem own_bel {W W' : World} {base e sz n : Nat} {v : Value} {xs : List Value} (h : W.ownsRow base e sz v n xs) (hb : Below W.heap.size W W') : W'.ownsRow base e sz v n xs := own_later h (fun q hq => hb.block _ (own_base h hq).2)
theorem Row3.later {E : TypeId} {V0 W W' : World} {v : Value} {l : List T3} (h : Row3 E V0 W v l) (b : Below W.heap.size W W') : Row3 E V0 W' v l := ⟨below_step h.bel b, own_bel h.o b⟩
theorem Row3.push {E : TypeId} {V0 W W1 w1 : World} {v v1 : Value} {l m : List T3} {k : Nat} {news : List Value} (h : Row3 E V0 W v l) (b : Below W.heap.size W W1) (ho : w1.ownsRow V0.heap.size E 3 v1 (l.length + k) (t3s l ++ news)) (hg : W1.grownBy w1 v.ownBlock) (hk : k = m.length) (hn : news = t3s m) : Row3 E V0 w1 v1 (l ++ m) := by
  subst hk hn
  have e : t3s (l ++ m) = t3s l ++ t3s m := by simp [t3s]
  refine ⟨below_own (below_step h.bel b) hg (by have := h.bel.size; have := b.size; omega) (fun g hg => (own_base h.o hg).1), ?_⟩
  rw [List.length_append, e]; exact ho
theorem Row3.at_ {E : TypeId} {V0 W : World} {v : Value} {l : List T3} (h : Row3 E V0 W v l) : ∃ A c, v = .slice A l.length c ∧ TAt W (.slice A l.length c) l := by
  obtain ⟨A, c, rfl, _, _⟩ := (sliceAt_of_own h.o).form
  exact ⟨A, c, rfl, sliceAt_of_own h.o⟩
theorem t3s_one (l : List T3) : ∀ u ∈ t3s l, u.oneCell' = true := fun u hu => by
  simp only [t3s, List.mem_flatMap, t3V] at hu
  obtain ⟨p, _, h⟩ := hu
  simp at h
  rcases h with rfl | rfl | rfl <;> rfl
/-- what the closure of held.holds holds -/
structure Holds (W : World) (ga gb gh : Nat) (mx : Int) (n : Nat) (opn : Bool) : Prop where
  a : W.cell? ⟨ga, 0, none⟩ = some (.int .i64 mx)
  b : W.cell? ⟨gb, 0, none⟩ = some (.int .i64 n)
  o : W.cell? ⟨gh, 20, none⟩ = some (.bool opn)
theorem Holds.later {W W' : World} {ga gb gh : Nat} {mx : Int} {n : Nat} {opn : Bool} (h : Holds W ga gb gh mx n opn) (b : Below W.heap.size W W') : Holds W' ga gb gh mx n opn := ⟨cell_later h.a b, cell_later h.b b, cell_later h.o b⟩
def still2 (mx : Int) (n : Nat) (opn : Bool) (k : Int) : Bool := decide (mx ≤ k) && (k != (n : Int) || !opn)
theorem still2_eq (gone : Int) (n : Nat) (opn : Bool) (x : T3) : still2 (max gone 0) n opn x.2.2 = stillB gone n opn x := rfl
set_option maxRecDepth 100000 in
theorem still_c (a b k : Int) (ga gb gh : Nat) (mx : Int) (n : Nat) (opn r : Bool) (w : World) (hr : r = still2 mx n opn k) (h : Holds w ga gb gh mx n opn) :
    Calls Tryz.prog 128 #[.agg #[.int .i64 a, .int .i64 b, .int .i64 k], .pointer (some ⟨ga, 0, none⟩), .pointer (some ⟨gb, 0, none⟩), .pointer (some ⟨gh, 0, none⟩)] w fun e w' => e = .returned (.bool r) ∧ Below w.heap.size w w' := by
  have b0 := below_new w (.cells #[.int .i64 a, .int .i64 b, .int .i64 k] 81)
  have G := new_at (w := w) rfl (.cells #[.int .i64 a, .int .i64 b, .int .i64 k] 81)
  obtain ⟨c1, c2, c3⟩ := h.later b0
  have x2 : (w.alloc (.cells #[.int .i64 a, .int .i64 b, .int .i64 k] 81)).cell? ⟨w.heap.size, 2, none⟩ = some (.int .i64 k) := by rw [cell_at G]; rfl
  clear h G
  unfold still2 at hr
  by_cases h1 : mx ≤ k
  · have q1 : decide (mx ≤ k) = true := decide_eq_true h1
    by_cases h2 : k = (n : Int)
    · have q2 : (k != (n : Int)) = false := by simp [h2]
      have q3 : (k == (n : Int)) = true := by simp [h2]
      obtain rfl : r = !opn := by rw [hr, q1, q2]; rfl
      clear hr h1 h2
      cases opn
      all_goals
        go_enter Tryz.func128, Tryz.ntmps128
        go_upto_region 1 with (fail)
        generalize w.alloc (.cells #[.int .i64 a, .int .i64 b, .int .i64 k] 81) = W0 at *
        go_wp2
        go_ret
        exact ⟨rfl, b0⟩
    · have q2 : (k != (n : Int)) = true := by simpa using h2
      have q3 : (k == (n : Int)) = false := by simpa using h2
      obtain rfl : r = true := by rw [hr, q1, q2]; rfl
      clear hr h1 h2
      go_enter Tryz.func128, Tryz.ntmps128
      go_upto_region 1 with (fail)
      generalize w.alloc (.cells #[.int .i64 a, .int .i64 b, .int .i64 k] 81) = W0 at *
      go_wp2
      go_ret
      exact ⟨rfl, b0⟩
  · have q1 : decide (mx ≤ k) = false := decide_eq_false h1
    obtain rfl : r = false := by rw [hr, q1]; rfl
    clear hr h1
    go_enter Tryz.func128, Tryz.ntmps128
    go_upto_region 1 with (fail)
    generalize w.alloc (.cells #[.int .i64 a, .int .i64 b, .int .i64 k] 81) = W0 at *
    go_wp2
    go_ret
    exact ⟨rfl, b0⟩
end Go.Proofs.YtppcdmbpbbjecaaGreat
