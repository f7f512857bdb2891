/- What the law looks at of what is shown: the document contracts of Sections, Has, Wants, Holder, Locked, occupied; rows told by masks. Nothing that was there is turned. -/
import Derived.Test.YtppcdmbpbbjecaaGreatShFin
import Derived.Test.YtppcdmbpbbjecaaGreatAspG8
import Derived.Deep.RegionHeld3
namespace Go.Proofs.YtppcdmbpbbjecaaGreat
open List renaming getElem_toArray → zA, getElem_cons_succ → zS, getElem_cons_zero → zZ, setIfInBounds_toArray → zP, set_cons_zero → zQ, set_cons_succ → zR
open Go.RowKit Rf Mem Bv AM SM Bits
theorem RowOk.eq {a b : BitVec 32} {n : Nat} {p : Nat → Bool} (h1 : RowOk a n p) (h2 : RowOk b n p) : a = b := by
  refine BitVec.eq_of_getLsbD_eq fun i _ => ?_
  by_cases hi : i < n
  · rw [h1.lo i hi, h2.lo i hi]
  · rw [h1.hi i (by omega), h2.hi i (by omega)]
theorem rowN_ok (Q : Nat → Bool) : ∀ n, n ≤ 32 → RowOk (rowN Q n) n Q
  | 0, _ => rowOk_zero Q
  | n + 1, h => (rowN_ok Q n (by omega)).next (by omega) rfl
end Go.Proofs.YtppcdmbpbbjecaaGreat
namespace Go.Proofs.YtppcdmbpbbjecaaGreat
open List renaming getElem_toArray → zA, getElem_cons_succ → zS, getElem_cons_zero → zZ, setIfInBounds_toArray → zP, set_cons_zero → zQ, set_cons_succ → zR
open Go.RowKit Rf Mem Bv AM
attribute [local go_sem ↓] run_max2 run_min2
theorem info_int : (Tryz.prog.info? 3).map (fun i => (i.zero, i.size, i.bytes)) = some (some (.int .i64 0), 1, 8) := by kernel_rfl
theorem iints_one (k : IntKind) (zs : List Int) : ∀ u ∈ ints k zs, u.oneCell' = true := fun u hu => by
  simp only [List.mem_map] at hu
  obtain ⟨z, _, rfl⟩ := hu; rfl
/-- a row of numbers that the call owns; V0: the world behind its variables -/
structure RowI (V0 W : World) (v : Value) (l : List Int) : Prop where
  bel : Below V0.heap.size V0 W
  o : W.ownsRow V0.heap.size 3 1 v l.length (ints .i64 l)
theorem RowI.later {V0 W W' : World} {v : Value} {l : List Int} (h : RowI V0 W v l) (b : Below W.heap.size W W') : RowI V0 W' v l := ⟨below_step h.bel b, own_bel h.o b⟩
theorem RowI.push {V0 W W1 w1 : World} {v v1 : Value} {l : List Int} {z : Int} (h : RowI V0 W v l) (b : Below W.heap.size W W1) (ho : w1.ownsRow V0.heap.size 3 1 v1 (l.length + 1) (ints .i64 l ++ [.int .i64 z])) (hg : W1.grownBy w1 v.ownBlock) : RowI V0 w1 v1 (l ++ [z]) := by
  refine ⟨below_own (below_step h.bel b) hg (by have := h.bel.size; have := b.size; omega) (fun g hg => (own_base h.o hg).1), ?_⟩
  rw [List.length_append, List.length_singleton, show ints .i64 (l ++ [z]) = ints .i64 l ++ [.int .i64 z] by simp [ints]]; exact ho
theorem RowI.at_ {V0 W : World} {v : Value} {l : List Int} (h : RowI V0 W v l) : ∃ A c, v = .slice A l.length c ∧ SliceAt W 1 (.slice A l.length c) l.length (ints .i64 l) := by
  obtain ⟨A, c, rfl, _, _⟩ := (sliceAt_of_own h.o).form
  exact ⟨A, c, rfl, sliceAt_of_own h.o⟩
theorem rowI_nil (V0 : World) : RowI V0 V0 (.slice none 0 0) [] := ⟨Below.refl _ _, own_nil _ _ _ _⟩
theorem sliceAt_one {w : World} {g : Nat} {e : TypeId} {f : Nat × Nat} {u : Value} (h : w.heap[g]? = some (.cells #[u] e f)) : SliceAt w 1 (.slice (some ⟨g, 0, none⟩) 1 1) 1 [u] :=
  ⟨some ⟨g, 0, none⟩, 1, rfl, Nat.le_refl _, by simp [maxLen], rfl, .inr ⟨g, 0, rfl, (Array.getElem?_eq_some_iff.1 h).1, fun i u hu => by rw [Nat.zero_add, cell_at h]; simpa using hu⟩⟩
/-- the sections of the steps from g to k -/
def part1 (l : List T3) (g k : Nat) : List Int := ((l.take k).drop g).map (·.1)
theorem part1_succ {l : List T3} {g k : Nat} {x : T3} (hx : l[k]? = some x) (hg : g ≤ k) : part1 l g (k + 1) = part1 l g k ++ [x.1] := by
  have hk := (List.getElem?_eq_some_iff.1 hx).1
  unfold part1
  rw [List.take_add_one, hx, Option.toList_some, List.drop_append_of_le_length (by rw [List.length_take]; omega), List.map_append]; rfl
theorem part1_zero (l : List T3) (g : Nat) : part1 l g g = [] := by
  unfold part1
  rw [List.map_eq_nil_iff, List.drop_eq_nil_iff, List.length_take]; omega
theorem part1_all (l : List T3) (g k : Nat) (hk : l.length ≤ k) : part1 l g k = (l.drop g).map (·.1) := by unfold part1; rw [List.take_of_length_le hk]
theorem part1_len (l : List T3) (g k : Nat) : (part1 l g k).length ≤ l.length := by
  unfold part1; rw [List.length_map, List.length_drop, List.length_take]; omega
set_option maxHeartbeats 1000000 in
set_option maxRecDepth 100000 in
theorem refSections_c (cs : List Value) (q : HeldM) (w : World) (h : HeldAt w cs q) (hl1 : q.steps.length ≤ 5864062014700) (hl2 : q.over.length ≤ 5864062014700) :
    Calls Tryz.prog 109 #[.agg cs.toArray] w fun e w' => ∃ A c, e = .returned (.slice A (secsL q).length c) ∧ Below w.heap.size w w' ∧ SliceAt w' 1 (.slice A (secsL q).length c) (secsL q).length (ints .i64 (secsL q)) := by
  obtain ⟨i0, hi, hz0, hz1, hz2⟩ := info_parts info_int
  have b0 := below_new w (.cells cs.toArray 75)
  have G := new_at (w := w) rfl (.cells cs.toArray 75)
  obtain ⟨v3, e3, t3⟩ := h.st
  obtain ⟨v4, e4, t4⟩ := h.ov
  obtain ⟨A3, c3, rfl⟩ := t3.form
  obtain ⟨A4, c4, rfl⟩ := t4.form
  obtain ⟨ls, hls⟩ : ∃ l, q.steps = l := ⟨_, rfl⟩
  obtain ⟨lo, hlo⟩ : ∃ l, q.over = l := ⟨_, rfl⟩
  obtain ⟨op, hop⟩ : ∃ l, q.opn = l := ⟨_, rfl⟩
  obtain ⟨g, hg⟩ : ∃ g, max q.gone 0 = g := ⟨_, rfl⟩
  have hS : secsL q = (ls.drop g.toNat).map (·.1) ++ (if op then [] else lo.map (·.1)) := by unfold secsL; rw [hls, hlo, hop, hg]
  rw [hls] at t3 e3 hl1
  rw [hlo] at t4 e4 hl2
  have HS := Lib.hid hS
  have HT3 := Lib.hid t3
  have HT4 := Lib.hid t4
  have HE3 := Lib.hid e3
  have HE4 := Lib.hid e4
  have HE7 := Lib.hid h.gone
  have HEo := Lib.hid (hop ▸ h.opn)
  have HG := Lib.hid hg
  have hg0 : 0 ≤ g := by omega
  clear hls hlo hop hS t3 t4 e3 e4 h
  go_enter Tryz.func109, Tryz.ntmps109
  go_upto_region 2 with (fail)
  generalize w.alloc (.cells cs.toArray 75) = W0 at *
  have x7 := cell_list G HE7.out
  go_upto_region 3 with (fail)
  clear x7 hg
  obtain ⟨gn, rfl⟩ := Int.eq_ofNat_of_zero_le hg0
  rw [Int.toNat_natCast] at HS
  go_wp2
  go_loopw [3, 4] (fun v i wr => ∃ k : Nat, gn ≤ k ∧ (k ≤ ls.length ∨ k = gn) ∧ i = .int .i64 k ∧ RowI W0 wr v (part1 ls gn k)) (fun v i _ => ls.length - (intOf i).toNat)
  case atStart => exact ⟨gn, Nat.le_refl _, .inr rfl, rfl, by rw [part1_zero]; exact rowI_nil _⟩
  case round =>
    obtain ⟨k, hk, hk2, rfl, R⟩ := hrel
    obtain ⟨m, hm⟩ : ∃ m, part1 ls gn k = m := ⟨_, rfl⟩
    have hml : m.length ≤ ls.length := by rw [← hm]; exact part1_len _ _ _
    rw [hm] at R
    have HM := Lib.hid hm
    clear hm
    have GH := var_later G R.bel
    have y3 := cell_list GH HE3.out
    by_cases hkl : k < ls.length
    · have i1 : (k : Int) < (ls.length : Int) := by omega
      have i2 : decide (k < ls.length) = true := decide_eq_true hkl
      obtain ⟨x, hx⟩ : ∃ x, ls[k]? = some x := ⟨_, List.getElem?_eq_getElem hkl⟩
      obtain ⟨bp, o1, cc, hv', x0, x1, x2⟩ := t3_cells (HT3.out.later (below_step b0 R.bel)) hx
      obtain ⟨rfl, hd, rfl⟩ := Value.slice.inj hv'
      have HX := Lib.hid (part1_succ hx hk)
      obtain ⟨a, b, c⟩ := x
      simp only at x0
      clear hv' hx hd x1 x2
      have bN := below_new wr (.cells #[.int .i64 a] 3)
      have hown := (R.later bN).o
      have hsz := R.bel.size
      go_wp2_with (at_builtin; refine wpList_append_src (by rfl) (.tmp 17) (.tmp 25) _ (by rfl) W0.heap.size 3 i0 _ 1 8 Tryz.underlying42 hi hz0 hz1 hz2 rfl (by omega) u3 m.length (ints .i64 m) (by rfl) hown (.slice (some ⟨wr.heap.size, 0, none⟩) 1 1) 1 [.int .i64 a] (by rfl) (sliceAt_one (new_at rfl _)) (by simp [Value.oneCell']) (by simp only [maxLen]; omega) (by omega) (by simp; omega) ?_; intro v1 w2 ho1 hg1 hw1)
      have R2 := R.push bN ho1 hg1
      go_roundw
      case rel => exact ⟨k + 1, by omega, .inl (by omega), by go_num, by rw [HX.out, HM.out]; exact R2⟩
      case measure => simp [intOf]; omega
    · have i2 : decide (k < ls.length) = false := decide_eq_false hkl
      have i1 : decide ((k : Int) < (ls.length : Int)) = false := decide_eq_false (by omega)
      have HA : Hid (m = (ls.drop gn).map (·.1)) := Lib.hid (by rw [← HM.out]; exact part1_all _ _ _ (by omega))
      clear hk hk2 hkl HM
      cases op
      · go_wp2
        go_loopw [3, 5] (fun v i wr => ∃ s : Nat, s ≤ lo.length ∧ i = .int .i64 s ∧ RowI W0 wr v (m ++ part1 lo 0 s)) (fun v i _ => lo.length - (intOf i).toNat)
        case atStart => exact ⟨0, Nat.zero_le _, rfl, by rw [part1_zero, List.append_nil]; exact R⟩
        case round =>
          clear R GH y3
          obtain ⟨s, hs, rfl, R⟩ := hrel
          obtain ⟨m2, hm2⟩ : ∃ m2, m ++ part1 lo 0 s = m2 := ⟨_, rfl⟩
          have hml2 : m2.length ≤ ls.length + lo.length := by rw [← hm2, List.length_append]; have := part1_len lo 0 s; omega
          rw [hm2] at R
          have HM2 := Lib.hid hm2
          clear hm2
          have GH := var_later G R.bel
          have y4 := cell_list GH HE4.out
          have y20 := cell_list GH HEo.out
          by_cases hsl : s < lo.length
          · have j1 : (s : Int) < (lo.length : Int) := by omega
            have j2 : decide (s < lo.length) = true := decide_eq_true hsl
            obtain ⟨x, hx⟩ : ∃ x, lo[s]? = some x := ⟨_, List.getElem?_eq_getElem hsl⟩
            obtain ⟨bp, o1, cc, hv', x0, x1, x2⟩ := t3_cells (HT4.out.later (below_step b0 R.bel)) hx
            obtain ⟨rfl, hd, rfl⟩ := Value.slice.inj hv'
            have HX := Lib.hid (part1_succ hx (Nat.zero_le s))
            have hm2l : m2.length + 1 ≤ ls.length + lo.length := by rw [← HM2.out, List.length_append]; unfold part1; rw [List.length_map, List.drop_zero, List.length_take]; omega
            obtain ⟨a, b, c⟩ := x
            simp only at x0
            clear hv' hx hd x1 x2
            have bN := below_new wr (.cells #[.int .i64 a] 3)
            have hown := (R.later bN).o
            have hsz := R.bel.size
            go_wp2_with (at_builtin; refine wpList_append_src (by rfl) (.tmp 39) (.tmp 46) _ (by rfl) W0.heap.size 3 i0 _ 1 8 Tryz.underlying42 hi hz0 hz1 hz2 rfl (by omega) u3 m2.length (ints .i64 m2) (by rfl) hown (.slice (some ⟨wr.heap.size, 0, none⟩) 1 1) 1 [.int .i64 a] (by rfl) (sliceAt_one (new_at rfl _)) (by simp [Value.oneCell']) (by simp only [maxLen]; omega) (by omega) (by simp; omega) ?_; intro v1 w2 ho1 hg1 hw1)
            have R2 := R.push bN ho1 hg1
            go_roundw
            case rel => exact ⟨s + 1, by omega, by go_num, by rw [HX.out, ← List.append_assoc, HM2.out]; exact R2⟩
            case measure => simp [intOf]; omega
          · obtain rfl : s = lo.length := by omega
            have j2 : decide (lo.length < lo.length) = false := decide_eq_false (by omega)
            go_wp2
            go_ret
            have e : secsL q = m2 := by rw [HS.out, ← HM2.out, HA.out, part1_all _ _ _ (Nat.le_refl _)]; rfl
            obtain ⟨A, c, rfl, hs⟩ := R.at_
            rw [e]
            exact ⟨A, c, rfl, below_step b0 R.bel, hs⟩
      · have y4 := cell_list GH HE4.out
        have y20 := cell_list GH HEo.out
        go_wp2
        go_loopw [3, 5] (fun v i wr => i = .int .i64 0 ∧ RowI W0 wr v m) (fun v i _ => 0)
        case atStart => exact ⟨rfl, R⟩
        case round =>
          clear R GH y3 y4 y20
          obtain ⟨rfl, R⟩ := hrel
          have GH := var_later G R.bel
          have y4 := cell_list GH HE4.out
          have y20 := cell_list GH HEo.out
          have e : secsL q = m := by rw [HS.out, HA.out]; simp
          obtain ⟨A, c, rfl, hs⟩ := R.at_
          by_cases h0 : 0 < lo.length
          · have d1 : decide (0 < lo.length) = true := decide_eq_true h0
            have d2 : decide ((0 : Int) < (lo.length : Int)) = true := decide_eq_true (by omega)
            go_wp2
            go_ret
            rw [e]
            exact ⟨A, c, rfl, below_step b0 R.bel, hs⟩
          · have d1 : decide (0 < lo.length) = false := decide_eq_false h0
            have d2 : decide ((0 : Int) < (lo.length : Int)) = false := decide_eq_false (by omega)
            go_wp2
            go_ret
            rw [e]
            exact ⟨A, c, rfl, below_step b0 R.bel, hs⟩
theorem icell_at {W : World} {A : Option Addr} {c n : Nat} {l : List Int} (h : SliceAt W 1 (.slice A n c) n (ints .i64 l)) {k : Nat} {z : Int} (hz : l[k]? = some z) (hn : n = l.length) : ∃ b off, A = some ⟨b, off, none⟩ ∧ W.cell? ⟨b, off + k, none⟩ = some (.int .i64 z) := by
  have hk := (List.getElem?_eq_some_iff.1 hz).1
  obtain ⟨b, off, c', hv, _, _, _, hc⟩ := SliceAt.pos h (by omega)
  obtain ⟨rfl, _, rfl⟩ := Value.slice.inj hv
  exact ⟨b, off, rfl, hc k _ (by rw [List.getElem?_map, hz]; rfl)⟩
set_option maxHeartbeats 1000000 in
set_option maxRecDepth 100000 in
theorem refHas_c (cs : List Value) (q : HeldM) (s : Int) (r : Bool) (w : World) (hr : r = hasB q s) (h : HeldAt w cs q) (hl1 : q.steps.length ≤ 5864062014700) (hl2 : q.over.length ≤ 5864062014700) :
    Calls Tryz.prog 83 #[.agg cs.toArray, .int .i64 s] w fun e w' => e = .returned (.bool r) ∧ Below w.heap.size w w' := by
  have b0 := below_new w (.cells cs.toArray 75)
  have G := new_at (w := w) rfl (.cells cs.toArray 75)
  have h0 := h.later b0
  have sz := held_size h.len
  have RH := range_of G
  have HR := Lib.hid hr
  clear hr h
  go_enter Tryz.func83, Tryz.ntmps83
  go_upto_region 1 with (fail)
  generalize w.alloc (.cells cs.toArray 75) = W0 at *
  go_wp2_with (first | refine wpList_load_g (by rfl) 75 (.tmp 2) (by rfl) w.heap.size 0 (by rfl) cs _ RH Tryz.underlying75 rfl sz ?_ | fail)
  refine (refSections_c cs q _ h0 hl1 hl2).mono ?_
  rintro e W1 ⟨A, c, rfl, b1, hs⟩
  obtain ⟨l, hl⟩ : ∃ l, secsL q = l := ⟨_, rfl⟩
  rw [hl] at hs
  have hln : l.length ≤ 11728124029400 := by rw [← hl]; unfold secsL; rw [List.length_append, List.length_map, List.length_drop]; split <;> simp <;> omega
  have HL := Lib.hid hl
  rw [hl]
  clear hl RH
  have B := below_step b0 b1
  go_wp2
  go_loopw [6] (fun i wr => ∃ k : Nat, k ≤ l.length ∧ i = .int .i64 k ∧ wr = W1 ∧ Hid ((l.take k).any (fun x => x == s) = false)) (fun i _ => l.length - (intOf i).toNat)
  case atStart => exact ⟨0, Nat.zero_le _, rfl, rfl, Lib.hid rfl⟩
  case round =>
    obtain ⟨k, hk, rfl, rfl, HK⟩ := hrel
    by_cases hkl : k < l.length
    · have i1 : (k : Int) < (l.length : Int) := by omega
      have i2 : decide (k < l.length) = true := decide_eq_true hkl
      obtain ⟨x, hx⟩ : ∃ x, l[k]? = some x := ⟨_, List.getElem?_eq_getElem hkl⟩
      obtain ⟨b, off, rfl, x0⟩ := icell_at hs hx rfl
      have HX := Lib.hid hx
      obtain ⟨d, hd⟩ : ∃ d, (x == s) = d := ⟨_, rfl⟩
      have HD := Lib.hid hd
      clear hx
      cases d
      · go_wp2
        go_roundw
        case rel => exact ⟨k + 1, by omega, by go_num, trivial, Lib.hid (by rw [any_take _ l k x HX.out, HK.out, HD.out]; rfl)⟩
        case measure => simp [intOf]; omega
      · go_wp2
        go_ret
        refine ⟨?_, B⟩
        rw [HR.out, hasB, HL.out]
        rw [List.any_eq_true.2 ⟨x, List.mem_of_getElem? HX.out, HD.out⟩]; rfl
    · obtain rfl : k = l.length := by omega
      have i2 : decide (l.length < l.length) = false := decide_eq_false (by omega)
      go_wp2
      go_ret
      refine ⟨?_, B⟩
      have e := HK.out
      rw [List.take_length] at e
      rw [HR.out, hasB, HL.out, e]; rfl
end Go.Proofs.YtppcdmbpbbjecaaGreat
namespace Go.Proofs.YtppcdmbpbbjecaaGreat
open List renaming getElem_toArray → zA, getElem_cons_succ → zS, getElem_cons_zero → zZ, setIfInBounds_toArray → zP, set_cons_zero → zQ, set_cons_succ → zR
open Go.RowKit Rf Mem Bv AM SM
attribute [local go_sem ↓] run_max2 run_min2
theorem any_takeP {α : Type} (p : α → Bool) (l : List α) (k : Nat) (x : α) (h : l[k]? = some x) : (l.take (k + 1)).any p = ((l.take k).any p || p x) := by
  rw [List.take_add_one, h, List.any_append]; simp
set_option maxHeartbeats 1000000 in
set_option maxRecDepth 100000 in
theorem refWants_c (cs : List Value) (q : HeldM) (p : Int) (r : Bool) (w : World) (hr : r = wantsB q p) (h : HeldAt w cs q) (hl : q.needs.length ≤ 5864062014700) :
    Calls Tryz.prog 86 #[.agg cs.toArray, .int .i64 p] w fun e w' => Below w.heap.size w w' ∧ ∃ z : Int, e = .returned (.tuple #[.int .i64 z, .bool r]) := by
  have b0 := below_new w (.cells cs.toArray 75)
  have G := new_at (w := w) rfl (.cells cs.toArray 75)
  have h0 := h.later b0
  have sz := held_size h.len
  have RH := range_of G
  have HR := Lib.hid hr
  clear hr h
  go_enter Tryz.func86, Tryz.ntmps86
  go_upto_region 1 with (fail)
  generalize w.alloc (.cells cs.toArray 75) = W0 at *
  go_wp2_with (first | refine wpList_load_g (by rfl) 75 (.tmp 2) (by rfl) w.heap.size 0 (by rfl) cs _ RH Tryz.underlying75 rfl sz ?_ | fail)
  refine (refNeeds_c cs q _ h0 hl).mono ?_
  rintro e W1 ⟨vn, rfl, b1, TN⟩
  obtain ⟨l, hll⟩ : ∃ l, needsL q = l := ⟨_, rfl⟩
  have hln : l.length ≤ 5864062014700 := by rw [← hll]; exact Nat.le_trans (List.length_filter_le _ _) hl
  rw [hll] at TN
  have HL := Lib.hid hll
  obtain ⟨An, cn, rfl⟩ := TN.form
  have HT := Lib.hid TN
  clear hll TN RH
  have B := below_step b0 b1
  go_wp2
  go_loopw [7] (fun i wr => ∃ k : Nat, k ≤ l.length ∧ i = .int .i64 k ∧ wr = W1 ∧ Hid ((l.take k).any (fun x => x.1 == p) = false)) (fun i _ => l.length - (intOf i).toNat)
  case atStart => exact ⟨0, Nat.zero_le _, rfl, rfl, Lib.hid rfl⟩
  case round =>
    obtain ⟨k, hk, rfl, rfl, HK⟩ := hrel
    by_cases hkl : k < l.length
    · have i1 : (k : Int) < (l.length : Int) := by omega
      have i2 : decide (k < l.length) = true := decide_eq_true hkl
      obtain ⟨x, hx⟩ : ∃ x, l[k]? = some x := ⟨_, List.getElem?_eq_getElem hkl⟩
      obtain ⟨b, off, cc, hv, x0, x1, x2⟩ := t3_cells HT.out hx
      obtain ⟨rfl, _, rfl⟩ := Value.slice.inj hv
      have HX := Lib.hid hx
      obtain ⟨a1, p1, c1⟩ := x
      simp only at x0 x1 x2
      obtain ⟨d, hd⟩ : ∃ d, (a1 == p) = d := ⟨_, rfl⟩
      have HD := Lib.hid hd
      clear hx hv
      cases d
      · go_wp2
        go_roundw
        case rel => exact ⟨k + 1, by omega, by go_num, trivial, Lib.hid (by rw [any_takeP _ l k _ HX.out, HK.out]; exact HD.out)⟩
        case measure => simp [intOf]; omega
      · go_wp2
        refine bodyPost_ret (results_tmp2 rfl _ _ _) rfl ?_
        refine ⟨B, ?_⟩
        rw [HR.out, wantsB, HL.out]
        rw [List.any_eq_true.2 ⟨_, List.mem_of_getElem? HX.out, HD.out⟩]
        exact ⟨p1, rfl⟩
    · obtain rfl : k = l.length := by omega
      have i2 : decide (l.length < l.length) = false := decide_eq_false (by omega)
      go_wp2
      refine bodyPost_ret (results_tmp2 rfl _ _ _) rfl ?_
      refine ⟨B, ?_⟩
      have e := HK.out
      rw [List.take_length] at e
      rw [HR.out, wantsB, HL.out, e]
      exact ⟨0, rfl⟩
/-- a kernel in a variable of its own -/
structure KB (w W : World) (K : List Value) (vh : Value) (css : List (List Value)) (hs : List HeldM) (nx : Int) (ms : List (Int × Int × Bool)) : Prop where
  bel : Below w.heap.size w W
  kb : W.heap[w.heap.size]? = some (.cells K.toArray 41 (0, 0))
  k : KerAt W K vh css hs nx ms
theorem KB.later {w W W' : World} {K : List Value} {vh : Value} {css : List (List Value)} {hs : List HeldM} {nx : Int} {ms : List (Int × Int × Bool)} (h : KB w W K vh css hs nx ms) (b : Below W.heap.size W W') : KB w W' K vh css hs nx ms := ⟨below_step h.bel b, var_later h.kb b, h.k.later b⟩
theorem holder_none {hs : List HeldM} {s : Int} (h : hs.any (fun q => hasB q s) = false) : holderM hs s = none := by
  unfold holderM
  rw [List.find?_eq_none]
  intro q hq hh
  exact absurd (List.any_eq_true.2 ⟨q, hq, hh⟩) (by rw [h]; simp)
theorem holder_some {hs : List HeldM} {s : Int} {q : HeldM} (hm : q ∈ hs) (hq : hasB q s = true) : (holderM hs s).isSome = true := by
  unfold holderM
  rw [List.find?_isSome]
  exact ⟨q, hm, hq⟩
set_option maxHeartbeats 2000000 in
set_option maxRecDepth 100000 in
theorem refHolder_c (K : List Value) (vh : Value) (css : List (List Value)) (hs : List HeldM) (nx : Int) (ms : List (Int × Int × Bool)) (s : Int) (r : Bool) (w : World) (hr : r = (holderM hs s).isSome) (hK : KerAt w K vh css hs nx ms) (hlen : hs.length ≤ 5864062014700) (hsm : Few hs) :
    Calls Tryz.prog 52 #[.agg K.toArray, .int .i64 s] w fun e w' => Below w.heap.size w w' ∧ ∃ z : Int, e = .returned (.tuple #[.int .i64 z, .bool r]) := by
  have b0 := below_new w (.cells K.toArray 41)
  have V : KB w (w.alloc (.cells K.toArray 41)) K vh css hs nx ms := ⟨b0, new_at rfl _, hK.later b0⟩
  have HR := Lib.hid hr
  have HSM := Lib.hid hsm
  have hll := hK.hs.len
  obtain ⟨Ah, ch, rfl, _⟩ := hK.hs.sl.form
  clear hr hK hsm b0
  go_enter Tryz.func52, Tryz.ntmps52
  go_upto_region 1 with (fail)
  generalize w.alloc (.cells K.toArray 41) = W0 at *
  obtain ⟨n, hn⟩ : ∃ n, css.length = n := ⟨_, rfl⟩
  have HN := Lib.hid hn
  have HH := Lib.hid (hn ▸ V.k.held)
  have hn1 : n ≤ 5864062014700 := by omega
  clear hn hll hlen
  go_wp2
  go_loopw [6] (fun i wr => ∃ k : Nat, k ≤ n ∧ i = .int .i64 k ∧ KB w wr K (.slice Ah css.length ch) css hs nx ms ∧ Hid ((hs.take k).any (fun q => hasB q s) = false)) (fun i _ => n - (intOf i).toNat)
  case atStart => exact ⟨0, Nat.zero_le _, rfl, V, Lib.hid rfl⟩
  case round =>
    clear V
    obtain ⟨k, hk, rfl, V, HKK⟩ := hrel
    have y1 := cell_list V.kb HH.out
    by_cases hlt : k < n
    · have hcl : css.length = n := HN.out
      obtain ⟨cs, hcs⟩ : ∃ s, css[k]? = some s := ⟨_, List.getElem?_eq_getElem (by omega)⟩
      obtain ⟨q, hq⟩ : ∃ s, hs[k]? = some s := ⟨_, List.getElem?_eq_getElem (by rw [← V.k.hs.len]; omega)⟩
      obtain ⟨b, off, c', hv, hrow⟩ := V.k.hs.row hcs
      have hHq := V.k.hs.at_ k cs q hcs hq
      obtain ⟨rfl, _, rfl⟩ := Value.slice.inj hv
      obtain ⟨s1, s2, s3⟩ := HSM.out q (List.mem_of_getElem? hq)
      have szS := held_size hHq.len
      have i1 : (k : Int) < (n : Int) := by omega
      have i2 : decide (k < n) = true := decide_eq_true hlt
      have HC := Lib.hid hq
      have HI := Lib.hid hHq.id
      have blt := World.block_lt_of_cell? _ _ (hrow 0 _ hHq.id)
      clear hcs hq hv hcl
      obtain ⟨d, hd⟩ : ∃ d, hasB q s = d := ⟨_, rfl⟩
      have HD := Lib.hid hd
      clear hd
      go_wp2_with (first
        | refine wpList_load_g (by rfl) 75 (.tmp 17) (by rfl) b (off + k * 23) (by rfl) cs _ hrow Tryz.underlying75 rfl szS ?_
        | fail)
      refine (refHas_c cs q s d _ HD.out.symm hHq s2 s3).mono ?_
      rintro e W4 ⟨rfl, b4⟩
      replace V := V.later b4
      have hrow' := range_below hrow b4 blt
      have y1 := cell_list V.kb HH.out
      have z0 := hrow' 0 _ HI.out
      rw [Nat.add_zero] at z0
      clear b4 hrow hrow' hHq
      cases d
      · clear z0
        go_wp2
        go_roundw
        case rel => exact ⟨k + 1, by omega, by go_num, V, Lib.hid (by rw [any_takeP _ hs k q HC.out, HKK.out, HD.out]; rfl)⟩
        case measure => simp [intOf]; omega
      · go_wp2
        refine bodyPost_ret (results_tmp2 rfl _ _ _) rfl ?_
        refine ⟨V.bel, ?_⟩
        rw [HR.out, holder_some (List.mem_of_getElem? HC.out) HD.out]
        exact ⟨_, rfl⟩
    · obtain rfl : k = n := by omega
      have i2 : decide (k < k) = false := decide_eq_false (by omega)
      have hcl : css.length = k := HN.out
      have hhl := V.k.hs.len
      have e := HKK.out
      rw [List.take_of_length_le (by omega)] at e
      have HE := Lib.hid (holder_none e)
      clear e hhl hcl
      go_wp2
      refine bodyPost_ret (results_tmp2 rfl _ _ _) rfl ?_
      refine ⟨V.bel, ?_⟩
      rw [HR.out, HE.out]
      exact ⟨0, rfl⟩
set_option maxHeartbeats 2000000 in
set_option maxRecDepth 100000 in
theorem refLocked_c (K : List Value) (vh : Value) (css : List (List Value)) (hs : List HeldM) (nx : Int) (ms : List (Int × Int × Bool)) (p : Int) (r : Bool) (w : World) (hr : r = lockedM hs p) (hK : KerAt w K vh css hs nx ms) (hlen : hs.length ≤ 5864062014700) (hsm : Few hs) :
    Calls Tryz.prog 55 #[.agg K.toArray, .int .i64 p] w fun e w' => e = .returned (.bool r) ∧ Below w.heap.size w w' := by
  have b0 := below_new w (.cells K.toArray 41)
  have V : KB w (w.alloc (.cells K.toArray 41)) K vh css hs nx ms := ⟨b0, new_at rfl _, hK.later b0⟩
  have HR := Lib.hid hr
  have HSM := Lib.hid hsm
  have hll := hK.hs.len
  obtain ⟨Ah, ch, rfl, _⟩ := hK.hs.sl.form
  clear hr hK hsm b0
  go_enter Tryz.func55, Tryz.ntmps55
  go_upto_region 1 with (fail)
  generalize w.alloc (.cells K.toArray 41) = W0 at *
  obtain ⟨n, hn⟩ : ∃ n, css.length = n := ⟨_, rfl⟩
  have HN := Lib.hid hn
  have HH := Lib.hid (hn ▸ V.k.held)
  have hn1 : n ≤ 5864062014700 := by omega
  clear hn hll hlen
  go_wp2
  go_loopw [5] (fun i wr => ∃ k : Nat, k ≤ n ∧ i = .int .i64 k ∧ KB w wr K (.slice Ah css.length ch) css hs nx ms ∧ Hid ((hs.take k).any (fun h => wantsB h p && h.stage != 1) = false)) (fun i _ => n - (intOf i).toNat)
  case atStart => exact ⟨0, Nat.zero_le _, rfl, V, Lib.hid rfl⟩
  case round =>
    clear V
    obtain ⟨k, hk, rfl, V, HKK⟩ := hrel
    have y1 := cell_list V.kb HH.out
    by_cases hlt : k < n
    · have hcl : css.length = n := HN.out
      obtain ⟨cs, hcs⟩ : ∃ s, css[k]? = some s := ⟨_, List.getElem?_eq_getElem (by omega)⟩
      obtain ⟨q, hq⟩ : ∃ s, hs[k]? = some s := ⟨_, List.getElem?_eq_getElem (by rw [← V.k.hs.len]; omega)⟩
      obtain ⟨b, off, c', hv, hrow⟩ := V.k.hs.row hcs
      have hHq := V.k.hs.at_ k cs q hcs hq
      obtain ⟨rfl, _, rfl⟩ := Value.slice.inj hv
      obtain ⟨s1, s2, s3⟩ := HSM.out q (List.mem_of_getElem? hq)
      have szS := held_size hHq.len
      have i1 : (k : Int) < (n : Int) := by omega
      have i2 : decide (k < n) = true := decide_eq_true hlt
      have HC := Lib.hid hq
      have HI := Lib.hid hHq.stage
      have blt := World.block_lt_of_cell? _ _ (hrow 0 _ hHq.id)
      clear hcs hq hv hcl
      obtain ⟨d, hd⟩ : ∃ d, wantsB q p = d := ⟨_, rfl⟩
      have HD := Lib.hid hd
      obtain ⟨f, hf⟩ : ∃ f, (q.stage == 1) = f := ⟨_, rfl⟩
      have HF := Lib.hid hf
      obtain ⟨sg, hsg⟩ : ∃ sg, q.stage = sg := ⟨_, rfl⟩
      rw [hsg] at hf HI
      have HSG := Lib.hid hsg
      clear hd hsg
      go_wp2_with (first
        | refine wpList_load_g (by rfl) 75 (.tmp 19) (by rfl) b (off + k * 23) (by rfl) cs _ hrow Tryz.underlying75 rfl szS ?_
        | fail)
      refine (refWants_c cs q p d _ HD.out.symm hHq s1).mono ?_
      rintro e W4 ⟨b4, z, rfl⟩
      replace V := V.later b4
      have hrow' := range_below hrow b4 blt
      have y1 := cell_list V.kb HH.out
      have z6 := hrow' 6 _ HI.out
      clear b4 hrow hrow' hHq
      cases d
      · clear z6 hf
        go_wp2
        go_roundw
        case rel => exact ⟨k + 1, by omega, by go_num, V, Lib.hid (by rw [any_takeP _ hs k q HC.out, HKK.out, HD.out]; rfl)⟩
        case measure => simp [intOf]; omega
      · cases f
        · go_wp2
          go_ret
          refine ⟨?_, V.bel⟩
          rw [HR.out, lockedM, List.any_eq_true.2 ⟨q, List.mem_of_getElem? HC.out, by rw [HD.out, bne, HF.out]; rfl⟩]; rfl
        · go_wp2
          go_roundw
          case rel => exact ⟨k + 1, by omega, by go_num, V, Lib.hid (by rw [any_takeP _ hs k q HC.out, HKK.out, HD.out, bne, HF.out]; rfl)⟩
          case measure => simp [intOf]; omega
    · obtain rfl : k = n := by omega
      have i2 : decide (k < k) = false := decide_eq_false (by omega)
      have hcl : css.length = k := HN.out
      have hhl := V.k.hs.len
      have e := HKK.out
      rw [List.take_of_length_le (by omega)] at e
      have HE := Lib.hid e
      clear e hhl hcl
      go_wp2
      go_ret
      refine ⟨?_, V.bel⟩
      rw [HR.out, lockedM, HE.out]; rfl
end Go.Proofs.YtppcdmbpbbjecaaGreat
namespace Go.Proofs.YtppcdmbpbbjecaaGreat
open List renaming getElem_toArray → zA, getElem_cons_succ → zS, getElem_cons_zero → zZ, setIfInBounds_toArray → zP, set_cons_zero → zQ, set_cons_succ → zR
open Go.RowKit Rf Mem Bv AM SM
attribute [local go_sem ↓] run_max2 run_min2
/-- a layout and an image in variables of one's own -/
structure LM2 (w W : World) (L M : List Value) : Prop where
  bel : Below w.heap.size w W
  v : V2 W w.heap.size (w.heap.size + 1) L M
theorem LM2.later {w W W' : World} {L M : List Value} (h : LM2 w W L M) (b : Below W.heap.size W W') : LM2 w W' L M := ⟨below_step h.bel b, h.v.later b⟩
set_option maxHeartbeats 2000000 in
set_option maxRecDepth 100000 in
theorem refOcc20_c (I : IM) (L M : List Value) (v : Value) (l : List T3) (r : Bool) (w : World) (hr : r = l.any fun s => I.occB s.1) (h : IMF I L M) (ht : TAt w v l) (hl : l.length ≤ 5864062014700) :
    Calls Tryz.prog 112 #[.agg L.toArray, .agg M.toArray, v] w fun e w' => e = .returned (.bool r) ∧ Below w.heap.size w w' := by
  have szL := lay_size h.l.len
  have szM := img_size h.m.len
  have b0 := below_step (below_new w (.cells L.toArray 29)) (below_new (w.alloc (.cells L.toArray 29)) (.cells M.toArray 35))
  have V : LM2 w ((w.alloc (.cells L.toArray 29)).alloc (.cells M.toArray 35)) L M := ⟨b0, old_at (new_at rfl _) _, new_at (by simp) _⟩
  have HR := Lib.hid hr
  have HF := Lib.hid h
  obtain ⟨A, c, rfl⟩ := ht.form
  have HT := Lib.hid ht
  clear hr h ht b0
  go_enter Tryz.func112, Tryz.ntmps112
  go_upto_region 1 with (fail)
  generalize (w.alloc (.cells L.toArray 29)).alloc (.cells M.toArray 35) = W0 at *
  go_wp2
  go_loopw [7] (fun i wr => ∃ k : Nat, k ≤ l.length ∧ i = .int .i64 k ∧ LM2 w wr L M ∧ Hid ((l.take k).any (fun s => I.occB s.1) = false)) (fun i _ => l.length - (intOf i).toNat)
  case atStart => exact ⟨0, Nat.zero_le _, rfl, V, Lib.hid rfl⟩
  case round =>
    clear V
    obtain ⟨k, hk, rfl, V, HKK⟩ := hrel
    by_cases hlt : k < l.length
    · have i1 : (k : Int) < (l.length : Int) := by omega
      have i2 : decide (k < l.length) = true := decide_eq_true hlt
      obtain ⟨x, hx⟩ : ∃ x, l[k]? = some x := ⟨_, List.getElem?_eq_getElem hlt⟩
      have HTW := HT.out.later V.bel
      obtain ⟨b, off, cc, hv, x0, x1, x2⟩ := t3_cells HTW hx
      obtain ⟨rfl, _, rfl⟩ := Value.slice.inj hv
      have HX := Lib.hid hx
      obtain ⟨a1, p1, c1⟩ := x
      simp only at x0 x1 x2
      clear hx hv x1 x2 HTW
      obtain ⟨d, hd⟩ : ∃ d, I.occB a1 = d := ⟨_, rfl⟩
      have HD := Lib.hid hd
      clear hd
      go_upto_region 4 with (fail)
      refine wp_region_held_drew (S := (fun w' => w'.rangeAt w.heap.size 0 L ∧ w'.rangeAt (w.heap.size + 1) 0 M ∧ w'.cell? ⟨b, off + k * 3, none⟩ = some (.int .i64 a1))) (by kernel_rfl) ?_ (fun hHeld => ?_)
      · exact ⟨range_of V.v.l, range_of V.v.m, x0⟩
      have bd : Below wr.heap.size wr wr.drew := (Below.refl _ wr).drew
      replace V := V.later bd
      clear x0 bd
      generalize wr.drew = X at *
      refine wpAnyH_take (i := 0) (v := .agg (L : List Value).toArray) rfl (by kernel_rfl) (by kernel_rfl) (by kernel_rfl) (fun _ _ _ h => h) (yieldsIf_load_mid (by kernel_rfl) 29 (.tmp 3) (by kernel_rfl) (w.heap.size) 0 (by kernel_rfl) L _ (fun w' h => h.1) (by first | exact Tryz.underlying29) rfl (by first | assumption | (simp only [*]; kernel_rfl))) (by assumption) ?_
      try simp only [zA, zS, zZ, Act.put, zP, zQ, zR]
      refine wpAnyH_take (i := 1) (v := .agg (M : List Value).toArray) rfl (by kernel_rfl) (by kernel_rfl) (by kernel_rfl) (fun _ _ _ h => h) (yieldsIf_load_mid (by kernel_rfl) 35 (.tmp 4) (by kernel_rfl) (w.heap.size + 1) 0 (by kernel_rfl) M _ (fun w' h => h.2.1) (by first | exact Tryz.underlying35) rfl (by first | assumption | (simp only [*]; kernel_rfl))) (by assumption) ?_
      try simp only [zA, zS, zZ, Act.put, zP, zQ, zR]
      refine Node.tk 2 ?_ rfl ?_ ?_
      rotate_left
      · intro w hSw; (try dsimp only at hSw); go_simp; try with_reducible rfl
      simp only [zA, zS, zZ, Act.put, zP, zQ, zR]
      refine Node.tk 3 ?_ rfl ?_ ?_
      rotate_left
      · intro w hSw; (try dsimp only at hSw); go_simp; try with_reducible rfl
      simp only [zA, zS, zZ, Act.put, zP, zQ, zR]
      refine Node.tk 4 ?_ rfl ?_ ?_
      rotate_left
      · intro w hSw; (try dsimp only at hSw); go_simp; try with_reducible rfl
      simp only [zA, zS, zZ, Act.put, zP, zQ, zR]
      refine Node.tk 5 ?_ rfl ?_ ?_
      rotate_left
      · intro w hSw; (try dsimp only at hSw); go_simp; try with_reducible rfl
      simp only [zA, zS, zZ, Act.put, zP, zQ, zR]
      refine Node.tk 6 ?_ rfl ?_ ?_
      rotate_left
      · intro w hSw; (try dsimp only at hSw); go_simp; try with_reducible rfl
      simp only [zA, zS, zZ, Act.put, zP, zQ, zR]
      have hx0 := hHeld.2.2
      clear hHeld
      refine Node.on 7 rfl (fun K hK => ?_)
      go_simp
      refine (rocc_c I L M a1 d _ HD.out.symm HF.out).mono ?_
      rintro e X' ⟨rfl, bF⟩
      have hx1 : X'.cell? ⟨b, off + k * 3, none⟩ = some (.int .i64 a1) := cell_later hx0 bF
      replace V := V.later bF
      clear bF hx0
      refine hK.out _ _ ⟨range_of V.v.l, range_of V.v.m, hx1⟩ (fun _ => ?_)
      clear hK K hx1
      try simp only [zA, zS, zZ, Act.put, zP, zQ, zR]
      refine wpAnyH_done (by kernel_rfl) ?_ _
      cases d
      · go_wp2
        go_roundw
        case rel => exact ⟨k + 1, by omega, by go_num, V, Lib.hid (by rw [any_takeP _ l k _ HX.out, HKK.out]; exact HD.out)⟩
        case measure => simp [intOf]; omega
      · go_wp2
        go_ret
        refine ⟨?_, V.bel⟩
        rw [HR.out, List.any_eq_true.2 ⟨_, List.mem_of_getElem? HX.out, HD.out⟩]; rfl
    · obtain rfl : k = l.length := by omega
      have i2 : decide (l.length < l.length) = false := decide_eq_false (by omega)
      go_wp2
      go_ret
      refine ⟨?_, V.bel⟩
      have e := HKK.out
      rw [List.take_length] at e
      rw [HR.out, e]; rfl
structure LM3 (w W : World) (L M cs : List Value) (q : HeldM) : Prop where
  bel : Below w.heap.size w W
  v : V2 W w.heap.size (w.heap.size + 1) L M
  c : W.heap[w.heap.size + 1 + 1]? = some (.cells cs.toArray 75 (0, 0))
  q : HeldAt W cs q
theorem LM3.later {w W W' : World} {L M cs : List Value} {q : HeldM} (h : LM3 w W L M cs q) (b : Below W.heap.size W W') : LM3 w W' L M cs q := ⟨below_step h.bel b, h.v.later b, var_later h.c b, h.q.later b⟩
theorem LM3.new {w : World} {L M cs : List Value} {q : HeldM} (h : HeldAt w cs q) : LM3 w (((w.alloc (.cells L.toArray 29)).alloc (.cells M.toArray 35)).alloc (.cells cs.toArray 75)) L M cs q := by
  have b := below_step (below_step (below_new w (.cells L.toArray 29)) (below_new _ (.cells M.toArray 35))) (below_new _ (.cells cs.toArray 75))
  exact ⟨b, ⟨old_at (old_at (new_at rfl _) _) _, old_at (new_at (by simp) _) _⟩, new_at (by simp) _, h.later b⟩
theorem all_takeP {α : Type} (p : α → Bool) (l : List α) (k : Nat) (x : α) (h : l[k]? = some x) : (l.take (k + 1)).all p = ((l.take k).all p && p x) := by
  rw [List.take_add_one, h, List.all_append]; simp
set_option maxHeartbeats 2000000 in
set_option maxRecDepth 100000 in
theorem refProves20_c (I : IM) (L M cs : List Value) (q : HeldM) (r : Bool) (w : World) (hr : r = provesB I.stand q) (h : IMA I L M w) (hq : HeldAt w cs q) (hlen : q.needs.length ≤ 5864062014700) :
    Calls Tryz.prog 113 #[.agg L.toArray, .agg M.toArray, .agg cs.toArray] w fun e w' => e = .returned (.bool r) ∧ Below w.heap.size w w' := by
  have szL := lay_size h.f.l.len
  have szM := img_size h.f.m.len
  have szS := held_size hq.len
  have V := LM3.new (L := L) (M := M) hq
  have HR := Lib.hid hr
  have HA := Lib.hid h
  clear hr h hq
  go_enter Tryz.func113, Tryz.ntmps113
  go_upto_region 1 with (fail)
  generalize ((w.alloc (.cells L.toArray 29)).alloc (.cells M.toArray 35)).alloc (.cells cs.toArray 75) = W0 at *
  have RC := range_of V.c
  go_wp2_with (first
    | refine wpList_load_g (by rfl) 75 (.tmp 5) (by rfl) (w.heap.size + 1 + 1) 0 (by rfl) cs _ RC Tryz.underlying75 rfl szS ?_
    | fail)
  refine (refNeeds_c cs q _ V.q hlen).mono ?_
  rintro e W1 ⟨vn, rfl, b1, TN⟩
  replace V := V.later b1
  obtain ⟨l, hll⟩ : ∃ l, needsL q = l := ⟨_, rfl⟩
  have hln : l.length ≤ 5864062014700 := by rw [← hll]; exact Nat.le_trans (List.length_filter_le _ _) hlen
  rw [hll] at TN
  have HL := Lib.hid hll
  obtain ⟨An, cn, rfl⟩ := TN.form
  have HT := Lib.hid TN
  clear hll TN RC b1
  go_wp2
  go_loopw [8] (fun i wr => ∃ k : Nat, k ≤ l.length ∧ i = .int .i64 k ∧ LM3 w wr L M cs q ∧ Below W1.heap.size W1 wr ∧ Hid ((l.take k).all (fun n => I.stand n.1 == n.2.1) = true)) (fun i _ => l.length - (intOf i).toNat)
  case atStart => exact ⟨0, Nat.zero_le _, rfl, V, Below.refl _ _, Lib.hid rfl⟩
  case round =>
    clear V
    obtain ⟨k, hk, rfl, V, bW, HKK⟩ := hrel
    by_cases hlt : k < l.length
    · have i1 : (k : Int) < (l.length : Int) := by omega
      have i2 : decide (k < l.length) = true := decide_eq_true hlt
      obtain ⟨x, hx⟩ : ∃ x, l[k]? = some x := ⟨_, List.getElem?_eq_getElem hlt⟩
      have HTW := HT.out.later bW
      obtain ⟨b, off, cc, hv, x0, x1, x2⟩ := t3_cells HTW hx
      obtain ⟨rfl, _, rfl⟩ := Value.slice.inj hv
      have HX := Lib.hid hx
      obtain ⟨a1, p1, c1⟩ := x
      simp only at x0 x1 x2
      clear hx hv x2 HTW
      obtain ⟨z, hz⟩ : ∃ z, I.stand a1 = z := ⟨_, rfl⟩
      have HZ := Lib.hid hz
      clear hz
      obtain ⟨d, hd⟩ : ∃ d, (z == p1) = d := ⟨_, rfl⟩
      have HD := Lib.hid hd
      go_upto_region 5 with (fail)
      refine wp_region_held_drew (S := (fun w' => w'.rangeAt w.heap.size 0 L ∧ w'.rangeAt (w.heap.size + 1) 0 M ∧ w'.cell? ⟨b, off + k * 3, none⟩ = some (.int .i64 a1) ∧ w'.cell? ⟨b, off + k * 3 + 1, none⟩ = some (.int .i64 p1))) (by kernel_rfl) ?_ (fun hHeld => ?_)
      · exact ⟨range_of V.v.l, range_of V.v.m, x0, x1⟩
      have bd : Below wr.heap.size wr wr.drew := (Below.refl _ wr).drew
      replace V := V.later bd
      replace bW := below_step bW bd
      clear x0 x1 bd
      generalize wr.drew = X at *
      refine wpAnyH_take (i := 0) (v := .agg (L : List Value).toArray) rfl (by kernel_rfl) (by kernel_rfl) (by kernel_rfl) (fun _ _ _ h => h) (yieldsIf_load_mid (by kernel_rfl) 29 (.tmp 3) (by kernel_rfl) (w.heap.size) 0 (by kernel_rfl) L _ (fun w' h => h.1) (by first | exact Tryz.underlying29) rfl (by first | assumption | (simp only [*]; kernel_rfl))) (by assumption) ?_
      try simp only [zA, zS, zZ, Act.put, zP, zQ, zR]
      refine wpAnyH_take (i := 1) (v := .agg (M : List Value).toArray) rfl (by kernel_rfl) (by kernel_rfl) (by kernel_rfl) (fun _ _ _ h => h) (yieldsIf_load_mid (by kernel_rfl) 35 (.tmp 4) (by kernel_rfl) (w.heap.size + 1) 0 (by kernel_rfl) M _ (fun w' h => h.2.1) (by first | exact Tryz.underlying35) rfl (by first | assumption | (simp only [*]; kernel_rfl))) (by assumption) ?_
      try simp only [zA, zS, zZ, Act.put, zP, zQ, zR]
      refine Node.tk 2 ?_ rfl ?_ ?_
      rotate_left
      · intro w hSw; (try dsimp only at hSw); go_simp; try with_reducible rfl
      simp only [zA, zS, zZ, Act.put, zP, zQ, zR]
      refine Node.tk 3 ?_ rfl ?_ ?_
      rotate_left
      · intro w hSw; (try dsimp only at hSw); go_simp; try with_reducible rfl
      simp only [zA, zS, zZ, Act.put, zP, zQ, zR]
      refine Node.tk 4 ?_ rfl ?_ ?_
      rotate_left
      · intro w hSw; (try dsimp only at hSw); go_simp; try with_reducible rfl
      simp only [zA, zS, zZ, Act.put, zP, zQ, zR]
      refine Node.tk 5 ?_ rfl ?_ ?_
      rotate_left
      · intro w hSw; (try dsimp only at hSw); go_simp; try with_reducible rfl
      simp only [zA, zS, zZ, Act.put, zP, zQ, zR]
      refine Node.tk 6 ?_ rfl ?_ ?_
      rotate_left
      · intro w hSw; (try dsimp only at hSw); go_simp; try with_reducible rfl
      simp only [zA, zS, zZ, Act.put, zP, zQ, zR]
      refine Node.tk 8 ?_ rfl ?_ ?_
      rotate_left
      · intro w hSw; (try dsimp only at hSw); go_simp; try with_reducible rfl
      simp only [zA, zS, zZ, Act.put, zP, zQ, zR]
      refine Node.tk 9 ?_ rfl ?_ ?_
      rotate_left
      · intro w hSw; (try dsimp only at hSw); go_simp; try with_reducible rfl
      simp only [zA, zS, zZ, Act.put, zP, zQ, zR]
      refine Node.tk 10 ?_ rfl ?_ ?_
      rotate_left
      · intro w hSw; (try dsimp only at hSw); go_simp; try with_reducible rfl
      simp only [zA, zS, zZ, Act.put, zP, zQ, zR]
      refine Node.tk 11 ?_ rfl ?_ ?_
      rotate_left
      · intro w hSw; (try dsimp only at hSw); go_simp; try with_reducible rfl
      simp only [zA, zS, zZ, Act.put, zP, zQ, zR]
      refine Node.tk 12 ?_ rfl ?_ ?_
      rotate_left
      · intro w hSw; (try dsimp only at hSw); go_simp; try with_reducible rfl
      simp only [zA, zS, zZ, Act.put, zP, zQ, zR]
      have hx0 := hHeld.2.2
      clear hHeld
      refine Node.on 7 rfl (fun K hK => ?_)
      go_simp
      refine (rstand_c I L M a1 z _ HZ.out.symm (HA.out.later V.bel)).mono ?_
      rintro e X' ⟨rfl, bF⟩
      have hy0 : X'.cell? ⟨b, off + k * 3, none⟩ = some (.int .i64 a1) := cell_later hx0.1 bF
      have hy1 : X'.cell? ⟨b, off + k * 3 + 1, none⟩ = some (.int .i64 p1) := cell_later hx0.2 bF
      replace V := V.later bF
      replace bW := below_step bW bF
      clear bF hx0
      refine hK.out _ _ ⟨range_of V.v.l, range_of V.v.m, hy0, hy1⟩ (fun hHeld => ?_)
      clear hK K hy0 hy1
      try simp only [zA, zS, zZ, Act.put, zP, zQ, zR]
      refine Node.tk 13 ?_ rfl ?_ ?_
      rotate_left
      · intro w hSw; (try dsimp only at hSw); go_simp; try with_reducible rfl
      simp only [zA, zS, zZ, Act.put, zP, zQ, zR]
      clear hHeld
      refine wpAnyH_done (by kernel_rfl) ?_ _
      cases d
      · go_wp2
        go_ret
        refine ⟨?_, V.bel⟩
        rw [HR.out, provesB, HL.out]
        cases hall : l.all fun n => I.stand n.1 == n.2.1
        · rfl
        · have := List.all_eq_true.1 hall _ (List.mem_of_getElem? HX.out)
          rw [HZ.out, HD.out] at this
          cases this
      · go_wp2
        go_roundw
        case rel => exact ⟨k + 1, by omega, by go_num, V, bW, Lib.hid (by rw [all_takeP _ l k _ HX.out, HKK.out, HZ.out, HD.out]; rfl)⟩
        case measure => simp [intOf]; omega
    · obtain rfl : k = l.length := by omega
      have i2 : decide (l.length < l.length) = false := decide_eq_false (by omega)
      go_wp2
      go_ret
      refine ⟨?_, V.bel⟩
      have e := HKK.out
      rw [List.take_length] at e
      rw [HR.out, provesB, HL.out, e]; rfl
theorem clear20_is {st : Int → Int} {occ lit : Int → Bool} (q : HeldM) : clearB st occ lit q = (q.stage == 2 && (!(q.steps.any fun s => occ s.1) && (!(q.over.any fun s => occ s.1) && (provesB st q && lit q.sig)))) := by
  have e : ∀ l : List T3, (l.all fun s => !occ s.1) = !(l.any fun s => occ s.1) := fun l => by induction l with
    | nil => rfl
    | cons a r ih => simp [ih]
  unfold clearB
  rw [e, e]
  cases q.stage == 2 <;> cases lit q.sig <;> cases (q.steps.any fun s => occ s.1) <;> cases (q.over.any fun s => occ s.1) <;> cases provesB st q <;> rfl
set_option maxHeartbeats 2000000 in
set_option maxRecDepth 100000 in
theorem refClear20_c (I : IM) (L M cs : List Value) (q : HeldM) (r : Bool) (w : World) (hr : r = clearB I.stand I.occB I.litB q) (h : IMA I L M w) (hq : HeldAt w cs q) (hlen : q.needs.length ≤ 5864062014700) (hl1 : q.steps.length ≤ 5864062014700) (hl2 : q.over.length ≤ 5864062014700) :
    Calls Tryz.prog 87 #[.agg L.toArray, .agg M.toArray, .agg cs.toArray] w fun e w' => e = .returned (.bool r) ∧ Below w.heap.size w w' := by
  have szL := lay_size h.f.l.len
  have szM := img_size h.f.m.len
  have szS := held_size hq.len
  have V := LM3.new (L := L) (M := M) hq
  rw [clear20_is] at hr
  obtain ⟨v3, e3, t3⟩ := hq.st
  obtain ⟨v4, e4, t4⟩ := hq.ov
  have HT := Lib.hid (And.intro t3 t4)
  have HE3 := Lib.hid e3
  have HE4 := Lib.hid e4
  have HE1 := Lib.hid hq.sig
  have HE6 := Lib.hid hq.stage
  have HA := Lib.hid h
  obtain ⟨f1, hf1⟩ : ∃ f, (q.stage == 2) = f := ⟨_, rfl⟩
  obtain ⟨f2, hf2⟩ : ∃ f, (q.steps.any fun s => I.occB s.1) = f := ⟨_, rfl⟩
  obtain ⟨f3, hf3⟩ : ∃ f, (q.over.any fun s => I.occB s.1) = f := ⟨_, rfl⟩
  obtain ⟨f4, hf4⟩ : ∃ f, provesB I.stand q = f := ⟨_, rfl⟩
  obtain ⟨f5, hf5⟩ : ∃ f, I.litB q.sig = f := ⟨_, rfl⟩
  rw [hf1, hf2, hf3, hf4, hf5] at hr
  have HR := Lib.hid hr
  have HF2 := Lib.hid hf2
  have HF3 := Lib.hid hf3
  have HF4 := Lib.hid hf4
  have HF5 := Lib.hid hf5
  obtain ⟨sg, hsg⟩ : ∃ sg, q.stage = sg := ⟨_, rfl⟩
  rw [hsg] at hf1 HE6
  obtain ⟨si, hsi⟩ : ∃ si, q.sig = si := ⟨_, rfl⟩
  rw [hsi] at HE1 HF5
  clear hr hf2 hf3 hf4 hf5 hsg hsi h hq e3 e4 t3 t4
  go_enter Tryz.func87, Tryz.ntmps87
  go_upto_region 1 with (fail)
  generalize ((w.alloc (.cells L.toArray 29)).alloc (.cells M.toArray 35)).alloc (.cells cs.toArray 75) = W0 at *
  have RL := range_of V.v.l
  have RM := range_of V.v.m
  have x6 := cell_list V.c HE6.out
  have x3 := cell_list V.c HE3.out
  cases f1
  · go_wp2
    go_ret
    exact ⟨by rw [HR.out]; rfl, V.bel⟩
  go_wp2_with (first
    | refine wpList_load_g (by rfl) 29 (.tmp 3) (by rfl) w.heap.size 0 (by rfl) L _ RL Tryz.underlying29 rfl szL ?_
    | refine wpList_load_g (by rfl) 35 (.tmp 4) (by rfl) (w.heap.size + 1) 0 (by rfl) M _ RM Tryz.underlying35 rfl szM ?_
    | fail)
  refine (refOcc20_c I L M v3 q.steps f2 _ HF2.out.symm HA.out.f (HT.out.1.later V.bel) hl1).mono ?_
  rintro e W1 ⟨rfl, b1⟩
  replace V := V.later b1
  clear RL RM x6 x3 b1
  have RL := range_of V.v.l
  have RM := range_of V.v.m
  have x4 := cell_list V.c HE4.out
  cases f2
  rotate_left
  · go_wp2
    go_ret
    exact ⟨by rw [HR.out]; rfl, V.bel⟩
  go_wp2_with (first
    | refine wpList_load_g (by rfl) 29 (.tmp 3) (by rfl) w.heap.size 0 (by rfl) L _ RL Tryz.underlying29 rfl szL ?_
    | refine wpList_load_g (by rfl) 35 (.tmp 4) (by rfl) (w.heap.size + 1) 0 (by rfl) M _ RM Tryz.underlying35 rfl szM ?_
    | fail)
  refine (refOcc20_c I L M v4 q.over f3 _ HF3.out.symm HA.out.f (HT.out.2.later V.bel) hl2).mono ?_
  rintro e W2 ⟨rfl, b1⟩
  replace V := V.later b1
  clear RL RM x4 b1
  have RL := range_of V.v.l
  have RM := range_of V.v.m
  have RC := range_of V.c
  cases f3
  rotate_left
  · go_wp2
    go_ret
    exact ⟨by rw [HR.out]; rfl, V.bel⟩
  go_wp2_with (first
    | refine wpList_load_g (by rfl) 29 (.tmp 3) (by rfl) w.heap.size 0 (by rfl) L _ RL Tryz.underlying29 rfl szL ?_
    | refine wpList_load_g (by rfl) 35 (.tmp 4) (by rfl) (w.heap.size + 1) 0 (by rfl) M _ RM Tryz.underlying35 rfl szM ?_
    | refine wpList_load_g (by rfl) 75 (.tmp 5) (by rfl) (w.heap.size + 1 + 1) 0 (by rfl) cs _ RC Tryz.underlying75 rfl szS ?_
    | fail)
  refine (refProves20_c I L M cs q f4 _ HF4.out.symm (HA.out.later V.bel) V.q hlen).mono ?_
  rintro e W3 ⟨rfl, b1⟩
  replace V := V.later b1
  clear RL RM RC b1
  have RL := range_of V.v.l
  have RM := range_of V.v.m
  have x1 := cell_list V.c HE1.out
  cases f4
  · go_wp2
    go_ret
    exact ⟨by rw [HR.out]; rfl, V.bel⟩
  go_wp2_with (first
    | refine wpList_load_g (by rfl) 29 (.tmp 3) (by rfl) w.heap.size 0 (by rfl) L _ RL Tryz.underlying29 rfl szL ?_
    | refine wpList_load_g (by rfl) 35 (.tmp 4) (by rfl) (w.heap.size + 1) 0 (by rfl) M _ RM Tryz.underlying35 rfl szM ?_
    | fail)
  refine (rlit_c I L M si f5 _ HF5.out.symm HA.out.f).mono ?_
  rintro e W4 ⟨rfl, b1⟩
  replace V := V.later b1
  clear RL RM x1 b1
  go_wp2
  go_ret
  exact ⟨by rw [HR.out]; cases f5 <;> rfl, V.bel⟩
end Go.Proofs.YtppcdmbpbbjecaaGreat
