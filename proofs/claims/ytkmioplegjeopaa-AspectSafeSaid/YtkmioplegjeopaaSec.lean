/- Sections that a route holds: contracts of the document's Sections, Has, Apart. Nothing that was there is turned. -/
import Derived.Test.YtkmioplegjeopaaAspU
namespace Go.Proofs.Ytkmioplegjeopaa
open Go.RowKit Rf Mem Bv AM
attribute [local go_sem ↓] run_max2 run_min2
theorem info_int : (Try.prog.info? 3).map (fun i => (i.zero, i.size, i.bytes)) = some (some (.int .i64 0), 1, 8) := by kernel_rfl
theorem iints_one (k : IntKind) (zs : List Int) : ∀ u ∈ ints k zs, u.oneCell' = true := fun u hu => by
  simp only [List.mem_map] at hu
  obtain ⟨z, _, rfl⟩ := hu; rfl
/-- a row of numbers that the call owns; V0: the world behind its variables -/
structure RowI (V0 W : World) (v : Value) (l : List Int) : Prop where
  bel : Below V0.heap.size V0 W
  o : W.ownsRow V0.heap.size 3 1 v l.length (ints .i64 l)
theorem RowI.later {V0 W W' : World} {v : Value} {l : List Int} (h : RowI V0 W v l) (b : Below W.heap.size W W') : RowI V0 W' v l := ⟨below_step h.bel b, own_bel h.o b⟩
theorem RowI.push {V0 W W1 w1 : World} {v v1 : Value} {l : List Int} {z : Int} (h : RowI V0 W v l) (b : Below W.heap.size W W1) (ho : w1.ownsRow V0.heap.size 3 1 v1 (l.length + 1) (ints .i64 l ++ [.int .i64 z])) (hg : W1.grownBy w1 v.ownBlock) : RowI V0 w1 v1 (l ++ [z]) := by
  refine ⟨below_own (below_step h.bel b) hg (by have := h.bel.size; have := b.size; omega) (fun g hg => (own_base h.o hg).1), ?_⟩
  rw [List.length_append, List.length_singleton, show ints .i64 (l ++ [z]) = ints .i64 l ++ [.int .i64 z] by simp [ints]]; exact ho
theorem RowI.at_ {V0 W : World} {v : Value} {l : List Int} (h : RowI V0 W v l) : ∃ A c, v = .slice A l.length c ∧ SliceAt W 1 (.slice A l.length c) l.length (ints .i64 l) := by
  obtain ⟨A, c, rfl, _, _⟩ := (sliceAt_of_own h.o).form
  exact ⟨A, c, rfl, sliceAt_of_own h.o⟩
theorem rowI_nil (V0 : World) : RowI V0 V0 (.slice none 0 0) [] := ⟨Below.refl _ _, own_nil _ _ _ _⟩
theorem sliceAt_one {w : World} {g : Nat} {e : TypeId} {f : Nat × Nat} {u : Value} (h : w.heap[g]? = some (.cells #[u] e f)) : SliceAt w 1 (.slice (some ⟨g, 0, none⟩) 1 1) 1 [u] :=
  ⟨some ⟨g, 0, none⟩, 1, rfl, Nat.le_refl _, by simp [maxLen], rfl, .inr ⟨g, 0, rfl, (Array.getElem?_eq_some_iff.1 h).1, fun i u hu => by rw [Nat.zero_add, cell_at h]; simpa using hu⟩⟩
/-- the sections of the steps from g to k -/
def part1 (l : List T3) (g k : Nat) : List Int := ((l.take k).drop g).map (·.1)
theorem part1_succ {l : List T3} {g k : Nat} {x : T3} (hx : l[k]? = some x) (hg : g ≤ k) : part1 l g (k + 1) = part1 l g k ++ [x.1] := by
  have hk := (List.getElem?_eq_some_iff.1 hx).1
  unfold part1
  rw [List.take_add_one, hx, Option.toList_some, List.drop_append_of_le_length (by rw [List.length_take]; omega), List.map_append]; rfl
theorem part1_zero (l : List T3) (g : Nat) : part1 l g g = [] := by
  unfold part1
  rw [List.map_eq_nil_iff, List.drop_eq_nil_iff, List.length_take]; omega
theorem part1_all (l : List T3) (g k : Nat) (hk : l.length ≤ k) : part1 l g k = (l.drop g).map (·.1) := by unfold part1; rw [List.take_of_length_le hk]
theorem part1_len (l : List T3) (g k : Nat) : (part1 l g k).length ≤ l.length := by
  unfold part1; rw [List.length_map, List.length_drop, List.length_take]; omega
set_option maxHeartbeats 1000000 in
set_option maxRecDepth 100000 in
theorem refSections_c (cs : List Value) (q : HeldM) (w : World) (h : HeldAt w cs q) (hl1 : q.steps.length ≤ 5864062014700) (hl2 : q.over.length ≤ 5864062014700) :
    Calls Try.prog 29 #[.agg cs.toArray] w fun e w' => ∃ A c, e = .returned (.slice A (secsL q).length c) ∧ Below w.heap.size w w' ∧ SliceAt w' 1 (.slice A (secsL q).length c) (secsL q).length (ints .i64 (secsL q)) := by
  obtain ⟨i0, hi, hz0, hz1, hz2⟩ := info_parts info_int
  have b0 := below_new w (.cells cs.toArray 52)
  have G := new_at (w := w) rfl (.cells cs.toArray 52)
  obtain ⟨v3, e3, t3⟩ := h.st
  obtain ⟨v4, e4, t4⟩ := h.ov
  obtain ⟨A3, c3, rfl⟩ := t3.form
  obtain ⟨A4, c4, rfl⟩ := t4.form
  obtain ⟨ls, hls⟩ : ∃ l, q.steps = l := ⟨_, rfl⟩
  obtain ⟨lo, hlo⟩ : ∃ l, q.over = l := ⟨_, rfl⟩
  obtain ⟨op, hop⟩ : ∃ l, q.opn = l := ⟨_, rfl⟩
  obtain ⟨g, hg⟩ : ∃ g, max q.gone 0 = g := ⟨_, rfl⟩
  have hS : secsL q = (ls.drop g.toNat).map (·.1) ++ (if op then [] else lo.map (·.1)) := by unfold secsL; rw [hls, hlo, hop, hg]
  rw [hls] at t3 e3 hl1
  rw [hlo] at t4 e4 hl2
  have HS := Lib.hid hS
  have HT3 := Lib.hid t3
  have HT4 := Lib.hid t4
  have HE3 := Lib.hid e3
  have HE4 := Lib.hid e4
  have HE7 := Lib.hid h.gone
  have HEo := Lib.hid (hop ▸ h.opn)
  have HG := Lib.hid hg
  have hg0 : 0 ≤ g := by omega
  clear hls hlo hop hS t3 t4 e3 e4 h
  go_enter Try.func29, Try.ntmps29
  go_upto_region 2 with (fail)
  generalize w.alloc (.cells cs.toArray 52) = W0 at *
  have x7 := cell_list G HE7.out
  go_upto_region 3 with (fail)
  clear x7 hg
  obtain ⟨gn, rfl⟩ := Int.eq_ofNat_of_zero_le hg0
  rw [Int.toNat_natCast] at HS
  go_wp2
  go_loopw [3, 4] (fun v i wr => ∃ k : Nat, gn ≤ k ∧ (k ≤ ls.length ∨ k = gn) ∧ i = .int .i64 k ∧ RowI W0 wr v (part1 ls gn k)) (fun v i _ => ls.length - (intOf i).toNat)
  case atStart => exact ⟨gn, Nat.le_refl _, .inr rfl, rfl, by rw [part1_zero]; exact rowI_nil _⟩
  case round =>
    obtain ⟨k, hk, hk2, rfl, R⟩ := hrel
    obtain ⟨m, hm⟩ : ∃ m, part1 ls gn k = m := ⟨_, rfl⟩
    have hml : m.length ≤ ls.length := by rw [← hm]; exact part1_len _ _ _
    rw [hm] at R
    have HM := Lib.hid hm
    clear hm
    have GH := var_later G R.bel
    have y3 := cell_list GH HE3.out
    by_cases hkl : k < ls.length
    · have i1 : (k : Int) < (ls.length : Int) := by omega
      have i2 : decide (k < ls.length) = true := decide_eq_true hkl
      obtain ⟨x, hx⟩ : ∃ x, ls[k]? = some x := ⟨_, List.getElem?_eq_getElem hkl⟩
      obtain ⟨bp, o1, cc, hv', x0, x1, x2⟩ := t3_cells (HT3.out.later (below_step b0 R.bel)) hx
      obtain ⟨rfl, hd, rfl⟩ := Value.slice.inj hv'
      have HX := Lib.hid (part1_succ hx hk)
      obtain ⟨a, b, c⟩ := x
      simp only at x0
      clear hv' hx hd x1 x2
      have bN := below_new wr (.cells #[.int .i64 a] 3)
      have hown := (R.later bN).o
      have hsz := R.bel.size
      go_wp2_with (at_builtin; refine wpList_append_src (by rfl) (.tmp 17) (.tmp 25) _ (by rfl) W0.heap.size 3 i0 _ 1 8 Try.underlying86 hi hz0 hz1 hz2 rfl (by omega) u3 m.length (ints .i64 m) (by rfl) hown (.slice (some ⟨wr.heap.size, 0, none⟩) 1 1) 1 [.int .i64 a] (by rfl) (sliceAt_one (new_at rfl _)) (by simp [Value.oneCell']) (by simp only [maxLen]; omega) (by omega) (by simp; omega) ?_; intro v1 w2 ho1 hg1 hw1)
      have R2 := R.push bN ho1 hg1
      go_roundw
      case rel => exact ⟨k + 1, by omega, .inl (by omega), by go_num, by rw [HX.out, HM.out]; exact R2⟩
      case measure => simp [intOf]; omega
    · have i2 : decide (k < ls.length) = false := decide_eq_false hkl
      have i1 : decide ((k : Int) < (ls.length : Int)) = false := decide_eq_false (by omega)
      have HA : Hid (m = (ls.drop gn).map (·.1)) := Lib.hid (by rw [← HM.out]; exact part1_all _ _ _ (by omega))
      clear hk hk2 hkl HM
      cases op
      · go_wp2
        go_loopw [3, 5] (fun v i wr => ∃ s : Nat, s ≤ lo.length ∧ i = .int .i64 s ∧ RowI W0 wr v (m ++ part1 lo 0 s)) (fun v i _ => lo.length - (intOf i).toNat)
        case atStart => exact ⟨0, Nat.zero_le _, rfl, by rw [part1_zero, List.append_nil]; exact R⟩
        case round =>
          clear R GH y3
          obtain ⟨s, hs, rfl, R⟩ := hrel
          obtain ⟨m2, hm2⟩ : ∃ m2, m ++ part1 lo 0 s = m2 := ⟨_, rfl⟩
          have hml2 : m2.length ≤ ls.length + lo.length := by rw [← hm2, List.length_append]; have := part1_len lo 0 s; omega
          rw [hm2] at R
          have HM2 := Lib.hid hm2
          clear hm2
          have GH := var_later G R.bel
          have y4 := cell_list GH HE4.out
          have y20 := cell_list GH HEo.out
          by_cases hsl : s < lo.length
          · have j1 : (s : Int) < (lo.length : Int) := by omega
            have j2 : decide (s < lo.length) = true := decide_eq_true hsl
            obtain ⟨x, hx⟩ : ∃ x, lo[s]? = some x := ⟨_, List.getElem?_eq_getElem hsl⟩
            obtain ⟨bp, o1, cc, hv', x0, x1, x2⟩ := t3_cells (HT4.out.later (below_step b0 R.bel)) hx
            obtain ⟨rfl, hd, rfl⟩ := Value.slice.inj hv'
            have HX := Lib.hid (part1_succ hx (Nat.zero_le s))
            have hm2l : m2.length + 1 ≤ ls.length + lo.length := by rw [← HM2.out, List.length_append]; unfold part1; rw [List.length_map, List.drop_zero, List.length_take]; omega
            obtain ⟨a, b, c⟩ := x
            simp only at x0
            clear hv' hx hd x1 x2
            have bN := below_new wr (.cells #[.int .i64 a] 3)
            have hown := (R.later bN).o
            have hsz := R.bel.size
            go_wp2_with (at_builtin; refine wpList_append_src (by rfl) (.tmp 39) (.tmp 46) _ (by rfl) W0.heap.size 3 i0 _ 1 8 Try.underlying86 hi hz0 hz1 hz2 rfl (by omega) u3 m2.length (ints .i64 m2) (by rfl) hown (.slice (some ⟨wr.heap.size, 0, none⟩) 1 1) 1 [.int .i64 a] (by rfl) (sliceAt_one (new_at rfl _)) (by simp [Value.oneCell']) (by simp only [maxLen]; omega) (by omega) (by simp; omega) ?_; intro v1 w2 ho1 hg1 hw1)
            have R2 := R.push bN ho1 hg1
            go_roundw
            case rel => exact ⟨s + 1, by omega, by go_num, by rw [HX.out, ← List.append_assoc, HM2.out]; exact R2⟩
            case measure => simp [intOf]; omega
          · obtain rfl : s = lo.length := by omega
            have j2 : decide (lo.length < lo.length) = false := decide_eq_false (by omega)
            go_wp2
            go_ret
            have e : secsL q = m2 := by rw [HS.out, ← HM2.out, HA.out, part1_all _ _ _ (Nat.le_refl _)]; rfl
            obtain ⟨A, c, rfl, hs⟩ := R.at_
            rw [e]
            exact ⟨A, c, rfl, below_step b0 R.bel, hs⟩
      · have y4 := cell_list GH HE4.out
        have y20 := cell_list GH HEo.out
        go_wp2
        go_loopw [3, 5] (fun v i wr => i = .int .i64 0 ∧ RowI W0 wr v m) (fun v i _ => 0)
        case atStart => exact ⟨rfl, R⟩
        case round =>
          clear R GH y3 y4 y20
          obtain ⟨rfl, R⟩ := hrel
          have GH := var_later G R.bel
          have y4 := cell_list GH HE4.out
          have y20 := cell_list GH HEo.out
          have e : secsL q = m := by rw [HS.out, HA.out]; simp
          obtain ⟨A, c, rfl, hs⟩ := R.at_
          by_cases h0 : 0 < lo.length
          · have d1 : decide (0 < lo.length) = true := decide_eq_true h0
            have d2 : decide ((0 : Int) < (lo.length : Int)) = true := decide_eq_true (by omega)
            go_wp2
            go_ret
            rw [e]
            exact ⟨A, c, rfl, below_step b0 R.bel, hs⟩
          · have d1 : decide (0 < lo.length) = false := decide_eq_false h0
            have d2 : decide ((0 : Int) < (lo.length : Int)) = false := decide_eq_false (by omega)
            go_wp2
            go_ret
            rw [e]
            exact ⟨A, c, rfl, below_step b0 R.bel, hs⟩
theorem icell_at {W : World} {A : Option Addr} {c n : Nat} {l : List Int} (h : SliceAt W 1 (.slice A n c) n (ints .i64 l)) {k : Nat} {z : Int} (hz : l[k]? = some z) (hn : n = l.length) : ∃ b off, A = some ⟨b, off, none⟩ ∧ W.cell? ⟨b, off + k, none⟩ = some (.int .i64 z) := by
  have hk := (List.getElem?_eq_some_iff.1 hz).1
  obtain ⟨b, off, c', hv, _, _, _, hc⟩ := SliceAt.pos h (by omega)
  obtain ⟨rfl, _, rfl⟩ := Value.slice.inj hv
  exact ⟨b, off, rfl, hc k _ (by rw [List.getElem?_map, hz]; rfl)⟩
set_option maxHeartbeats 1000000 in
set_option maxRecDepth 100000 in
theorem refHas_c (cs : List Value) (q : HeldM) (s : Int) (r : Bool) (w : World) (hr : r = hasB q s) (h : HeldAt w cs q) (hl1 : q.steps.length ≤ 5864062014700) (hl2 : q.over.length ≤ 5864062014700) :
    Calls Try.prog 30 #[.agg cs.toArray, .int .i64 s] w fun e w' => e = .returned (.bool r) ∧ Below w.heap.size w w' := by
  have b0 := below_new w (.cells cs.toArray 52)
  have G := new_at (w := w) rfl (.cells cs.toArray 52)
  have h0 := h.later b0
  have sz := held_size h.len
  have RH := range_of G
  have HR := Lib.hid hr
  clear hr h
  go_enter Try.func30, Try.ntmps30
  go_upto_region 1 with (fail)
  generalize w.alloc (.cells cs.toArray 52) = W0 at *
  go_wp2_with (first | refine wpList_load_g (by rfl) 52 (.tmp 2) (by rfl) w.heap.size 0 (by rfl) cs _ RH Try.underlying52 rfl sz ?_ | fail)
  refine (refSections_c cs q _ h0 hl1 hl2).mono ?_
  rintro e W1 ⟨A, c, rfl, b1, hs⟩
  obtain ⟨l, hl⟩ : ∃ l, secsL q = l := ⟨_, rfl⟩
  rw [hl] at hs
  have hln : l.length ≤ 11728124029400 := by rw [← hl]; unfold secsL; rw [List.length_append, List.length_map, List.length_drop]; split <;> simp <;> omega
  have HL := Lib.hid hl
  rw [hl]
  clear hl RH
  have B := below_step b0 b1
  go_wp2
  go_loopw [6] (fun i wr => ∃ k : Nat, k ≤ l.length ∧ i = .int .i64 k ∧ wr = W1 ∧ Hid ((l.take k).any (fun x => x == s) = false)) (fun i _ => l.length - (intOf i).toNat)
  case atStart => exact ⟨0, Nat.zero_le _, rfl, rfl, Lib.hid rfl⟩
  case round =>
    obtain ⟨k, hk, rfl, rfl, HK⟩ := hrel
    by_cases hkl : k < l.length
    · have i1 : (k : Int) < (l.length : Int) := by omega
      have i2 : decide (k < l.length) = true := decide_eq_true hkl
      obtain ⟨x, hx⟩ : ∃ x, l[k]? = some x := ⟨_, List.getElem?_eq_getElem hkl⟩
      obtain ⟨b, off, rfl, x0⟩ := icell_at hs hx rfl
      have HX := Lib.hid hx
      obtain ⟨d, hd⟩ : ∃ d, (x == s) = d := ⟨_, rfl⟩
      have HD := Lib.hid hd
      clear hx
      cases d
      · go_wp2
        go_roundw
        case rel => exact ⟨k + 1, by omega, by go_num, trivial, Lib.hid (by rw [any_take _ l k x HX.out, HK.out, HD.out]; rfl)⟩
        case measure => simp [intOf]; omega
      · go_wp2
        go_ret
        refine ⟨?_, B⟩
        rw [HR.out, hasB, HL.out]
        rw [List.any_eq_true.2 ⟨x, List.mem_of_getElem? HX.out, HD.out⟩]; rfl
    · obtain rfl : k = l.length := by omega
      have i2 : decide (l.length < l.length) = false := decide_eq_false (by omega)
      go_wp2
      go_ret
      refine ⟨?_, B⟩
      have e := HK.out
      rw [List.take_length] at e
      rw [HR.out, hasB, HL.out, e]; rfl
/-- two routes' variables -/
structure AV (w W : World) (ca cb : List Value) : Prop where
  bel : Below w.heap.size w W
  a : W.heap[w.heap.size]? = some (.cells ca.toArray 52 (0, 0))
  b : W.heap[w.heap.size + 1]? = some (.cells cb.toArray 52 (0, 0))
theorem AV.later {w W W' : World} {ca cb : List Value} (h : AV w W ca cb) (b : Below W.heap.size W W') : AV w W' ca cb := ⟨below_step h.bel b, var_later h.a b, var_later h.b b⟩
set_option maxHeartbeats 2000000 in
set_option maxRecDepth 100000 in
theorem refApart_c (ca cb : List Value) (qa qb : HeldM) (r : Bool) (w : World) (hr : r = apartB qa qb) (ha : HeldAt w ca qa) (hb : HeldAt w cb qb) (a1 : qa.steps.length ≤ 5864062014700) (a2 : qa.over.length ≤ 5864062014700) (a3 : qa.needs.length ≤ 5864062014700) (b1 : qb.steps.length ≤ 5864062014700) (b2 : qb.over.length ≤ 5864062014700) (b3 : qb.needs.length ≤ 5864062014700) :
    Calls Try.prog 14 #[.agg ca.toArray, .agg cb.toArray] w fun e w' => e = .returned (.bool r) ∧ Below w.heap.size w w' := by
  have b0 : Below w.heap.size w ((w.alloc (.cells ca.toArray 52)).alloc (.cells cb.toArray 52)) := below_step (below_new _ _) (below_new _ _)
  have V : AV w ((w.alloc (.cells ca.toArray 52)).alloc (.cells cb.toArray 52)) ca cb := ⟨b0, old_at (new_at rfl _) _, new_at (by simp) _⟩
  have sza := held_size ha.len
  have szb := held_size hb.len
  have HR := Lib.hid hr
  have HA := Lib.hid ha
  have HB := Lib.hid hb
  clear hr ha hb b0
  go_enter Try.func14, Try.ntmps14
  go_upto_region 1 with (fail)
  generalize (w.alloc (.cells ca.toArray 52)).alloc (.cells cb.toArray 52) = W0 at *
  have RA := range_of V.a
  go_wp2_with (first | refine wpList_load_g (by rfl) 52 (.tmp 2) (by rfl) w.heap.size 0 (by rfl) ca _ RA Try.underlying52 rfl sza ?_ | fail)
  refine (refSections_c ca qa _ (HA.out.later V.bel) a1 a2).mono ?_
  rintro e W1 ⟨A, c, rfl, bF, hs⟩
  replace V := V.later bF
  clear bF RA
  obtain ⟨l, hl⟩ : ∃ l, secsL qa = l := ⟨_, rfl⟩
  rw [hl] at hs
  have hln : l.length ≤ 11728124029400 := by rw [← hl]; unfold secsL; rw [List.length_append, List.length_map, List.length_drop]; split <;> simp <;> omega
  have HL := Lib.hid hl
  rw [hl]
  have HS := Lib.hid hs
  clear hl hs
  go_wp2
  go_loopw [6] (fun i wr => ∃ k : Nat, k ≤ l.length ∧ i = .int .i64 k ∧ Below W1.heap.size W1 wr ∧ AV w wr ca cb ∧ Hid ((l.take k).all (fun x => !hasB qb x) = true)) (fun i _ => l.length - (intOf i).toNat)
  case atStart => exact ⟨0, Nat.zero_le _, rfl, Below.refl _ _, V, Lib.hid rfl⟩
  case round =>
    clear V
    obtain ⟨k, hk, rfl, bel, V, HK⟩ := hrel
    by_cases hkl : k < l.length
    · have i1 : (k : Int) < (l.length : Int) := by omega
      have i2 : decide (k < l.length) = true := decide_eq_true hkl
      obtain ⟨x, hx⟩ : ∃ x, l[k]? = some x := ⟨_, List.getElem?_eq_getElem hkl⟩
      obtain ⟨b, off, rfl, x0⟩ := icell_at HS.out hx rfl
      replace x0 := cell_later x0 bel
      have HX := Lib.hid hx
      obtain ⟨d, hd⟩ : ∃ d, hasB qb x = d := ⟨_, rfl⟩
      have HD := Lib.hid hd
      clear hx hd
      go_upto_region 5 with (fail)
      refine wp_region_held_drew (S := (fun w' => w'.rangeAt (w.heap.size + 1) 0 cb ∧ w'.cell? ⟨b, off + k, none⟩ = some (.int .i64 x))) (by kernel_rfl) ?_ (fun hHeld => ?_)
      · exact ⟨range_of V.b, x0⟩
      replace V := V.later (Below.refl _ wr).drew
      replace bel := below_step bel (Below.refl _ wr).drew
      replace x0 := cell_later x0 (Below.refl _ wr).drew
      generalize wr.drew = X at *
      refine wpAnyH_take (i := 0) (v := .agg (cb : List Value).toArray) rfl (by kernel_rfl) (by kernel_rfl) (by kernel_rfl) (fun _ _ _ h => h) (yieldsIf_load_mid (by kernel_rfl) 52 (.tmp 3) (by kernel_rfl) (w.heap.size + 1) 0 (by kernel_rfl) cb _ (fun w' h => h.1) (by first | exact Try.underlying52) rfl (by first | assumption | (simp only [*]; kernel_rfl))) (by assumption) ?_
      try simp only [List.getElem_toArray, List.getElem_cons_succ, List.getElem_cons_zero, Act.put, List.setIfInBounds_toArray, List.set_cons_zero, List.set_cons_succ]
      refine wpAnyH_take (i := 1) (v := ?_) rfl (by kernel_rfl) (by kernel_rfl) (by kernel_rfl) (fun _ _ _ h => h) (Or.inl ⟨by kernel_rfl, ?_⟩) (by assumption) ?_
      rotate_left
      · intro w hSw
        try dsimp only at hSw
        go_simp
        try with_reducible rfl
      simp only [List.getElem_toArray, List.getElem_cons_succ, List.getElem_cons_zero, Act.put, List.setIfInBounds_toArray, List.set_cons_zero, List.set_cons_succ]
      refine wpAnyH_take (i := 2) (v := ?_) rfl (by kernel_rfl) (by kernel_rfl) (by kernel_rfl) (fun _ _ _ h => h) (Or.inl ⟨by kernel_rfl, ?_⟩) (by assumption) ?_
      rotate_left
      · intro w hSw
        try dsimp only at hSw
        go_simp
        try with_reducible rfl
      simp only [List.getElem_toArray, List.getElem_cons_succ, List.getElem_cons_zero, Act.put, List.setIfInBounds_toArray, List.set_cons_zero, List.set_cons_succ]
      refine wpAnyH_take (i := 3) (v := ?_) rfl (by kernel_rfl) (by kernel_rfl) (by kernel_rfl) (fun _ _ _ h => h) (Or.inl ⟨by kernel_rfl, ?_⟩) (by assumption) ?_
      rotate_left
      · intro w hSw
        try dsimp only at hSw
        go_simp
        try with_reducible rfl
      simp only [List.getElem_toArray, List.getElem_cons_succ, List.getElem_cons_zero, Act.put, List.setIfInBounds_toArray, List.set_cons_zero, List.set_cons_succ]
      refine wpAnyH_take (i := 4) (v := ?_) rfl (by kernel_rfl) (by kernel_rfl) (by kernel_rfl) (fun _ _ _ h => h) (Or.inl ⟨by kernel_rfl, ?_⟩) (by assumption) ?_
      rotate_left
      · intro w hSw
        try dsimp only at hSw
        go_simp
        try with_reducible rfl
      simp only [List.getElem_toArray, List.getElem_cons_succ, List.getElem_cons_zero, Act.put, List.setIfInBounds_toArray, List.set_cons_zero, List.set_cons_succ]
      clear hHeld
      refine wpAnyH_ready (rs := [5]) (by kernel_rfl) (by simp) ?_
      refine AllReadyH.cons rfl (fun K hK => ?_) AllReadyH.nil
      refine Node.wp_fn 30 [.tmp 15, .tmp 19] _ [.agg cb.toArray, .int .i64 x] (by rfl) (by rfl) (enters Try.func30 (by kernel_rfl) rfl) (refHas_c cb qb x d X HD.out.symm (HB.out.later V.bel) b1 b2) ?_
      rintro e X' ⟨rfl, bF⟩
      refine ⟨_, rfl, ?_⟩
      replace V := V.later bF
      replace bel := below_step bel bF
      replace x0 := cell_later x0 bF
      refine hK.out _ _ ⟨range_of V.b, x0⟩ (fun hHeld => ?_)
      clear hK K hHeld bF x0
      try simp only [List.getElem_toArray, List.getElem_cons_succ, List.getElem_cons_zero, Act.put, List.setIfInBounds_toArray, List.set_cons_zero, List.set_cons_succ]
      refine wpAnyH_done (by kernel_rfl) ?_ _
      cases d
      · go_wp2
        go_roundw
        case rel => exact ⟨k + 1, by omega, by go_num, bel, V, Lib.hid (by rw [all_take _ l k x HX.out, HK.out, HD.out]; rfl)⟩
        case measure => simp [intOf]; omega
      · go_wp2
        go_ret
        refine ⟨?_, V.bel⟩
        have : (secsL qa).all (fun s => !hasB qb s) = false := by
          rw [HL.out, Bool.eq_false_iff]
          intro e
          have := List.all_eq_true.1 e x (List.mem_of_getElem? HX.out)
          rw [HD.out] at this; cases this
        rw [HR.out, apartB, this]; rfl
    · obtain rfl : k = l.length := by omega
      have i2 : decide (l.length < l.length) = false := decide_eq_false (by omega)
      have HF : Hid (l.all (fun x => !hasB qb x) = true) := Lib.hid (by have := HK.out; rwa [List.take_length] at this)
      clear HK HS
      obtain ⟨d, hd⟩ : ∃ d, clashB (needsL qa) (needsL qb) = d := ⟨_, rfl⟩
      have HD := Lib.hid hd
      clear hd
      go_upto_region 7 with (fail)
      refine wp_region_held_drew (S := (fun w' => w'.rangeAt w.heap.size 0 ca ∧ w'.rangeAt (w.heap.size + 1) 0 cb)) (by kernel_rfl) ?_ (fun hHeld => ?_)
      · exact ⟨range_of V.a, range_of V.b⟩
      replace V := V.later (Below.refl _ wr).drew
      generalize wr.drew = X at *
      refine wpAnyH_take (i := 0) (v := .agg (ca : List Value).toArray) rfl (by kernel_rfl) (by kernel_rfl) (by kernel_rfl) (fun _ _ _ h => h) (yieldsIf_load_mid (by kernel_rfl) 52 (.tmp 2) (by kernel_rfl) (w.heap.size) 0 (by kernel_rfl) ca _ (fun w' h => h.1) (by first | exact Try.underlying52) rfl (by first | assumption | (simp only [*]; kernel_rfl))) (by assumption) ?_
      try simp only [List.getElem_toArray, List.getElem_cons_succ, List.getElem_cons_zero, Act.put, List.setIfInBounds_toArray, List.set_cons_zero, List.set_cons_succ]
      refine wpAnyH_take (i := 2) (v := .agg (cb : List Value).toArray) rfl (by kernel_rfl) (by kernel_rfl) (by kernel_rfl) (fun _ _ _ h => h) (yieldsIf_load_mid (by kernel_rfl) 52 (.tmp 3) (by kernel_rfl) (w.heap.size + 1) 0 (by kernel_rfl) cb _ (fun w' h => h.2) (by first | exact Try.underlying52) rfl (by first | assumption | (simp only [*]; kernel_rfl))) (by assumption) ?_
      try simp only [List.getElem_toArray, List.getElem_cons_succ, List.getElem_cons_zero, Act.put, List.setIfInBounds_toArray, List.set_cons_zero, List.set_cons_succ]
      clear hHeld
      refine wpAnyH_ready (rs := [1]) (by kernel_rfl) (by simp) ?_
      refine AllReadyH.cons rfl (fun K hK => ?_) AllReadyH.nil
      refine Node.wp_fn 11 [.tmp 21] _ [.agg ca.toArray] (by rfl) (by rfl) (enters Try.func11 (by kernel_rfl) rfl) (refNeeds_c ca qa X (HA.out.later V.bel) a3) ?_
      rintro e X1 ⟨va, rfl, bF, ta⟩
      refine ⟨_, rfl, ?_⟩
      replace V := V.later bF
      refine hK.out _ _ ⟨range_of V.a, range_of V.b⟩ (fun hHeld => ?_)
      clear hK K hHeld bF
      try simp only [List.getElem_toArray, List.getElem_cons_succ, List.getElem_cons_zero, Act.put, List.setIfInBounds_toArray, List.set_cons_zero, List.set_cons_succ]
      refine wpAnyH_ready (rs := [3]) (by kernel_rfl) (by simp) ?_
      refine AllReadyH.cons rfl (fun K hK => ?_) AllReadyH.nil
      refine Node.wp_fn 11 [.tmp 23] _ [.agg cb.toArray] (by rfl) (by rfl) (enters Try.func11 (by kernel_rfl) rfl) (refNeeds_c cb qb X1 (HB.out.later V.bel) b3) ?_
      rintro e X2 ⟨vb, rfl, bF, tb⟩
      refine ⟨_, rfl, ?_⟩
      replace V := V.later bF
      replace ta := ta.later bF
      refine hK.out _ _ ⟨range_of V.a, range_of V.b⟩ (fun hHeld => ?_)
      clear hK K hHeld bF
      try simp only [List.getElem_toArray, List.getElem_cons_succ, List.getElem_cons_zero, Act.put, List.setIfInBounds_toArray, List.set_cons_zero, List.set_cons_succ]
      refine wpAnyH_ready (rs := [4]) (by kernel_rfl) (by simp) ?_
      refine AllReadyH.cons rfl (fun K hK => ?_) AllReadyH.nil
      refine Node.wp_fn 31 [.tmp 22, .tmp 24] _ [va, vb] (by rfl) (by rfl) (enters Try.func31 (by kernel_rfl) rfl) (refclash_c va vb _ _ d X2 HD.out.symm ta tb (Nat.le_trans (List.length_filter_le _ _) a3) (Nat.le_trans (List.length_filter_le _ _) b3)) ?_
      rintro e X3 ⟨rfl, bF⟩
      refine ⟨_, rfl, ?_⟩
      replace V := V.later bF
      refine hK.out _ _ ⟨range_of V.a, range_of V.b⟩ (fun hHeld => ?_)
      clear hK K bF ta tb
      try simp only [List.getElem_toArray, List.getElem_cons_succ, List.getElem_cons_zero, Act.put, List.setIfInBounds_toArray, List.set_cons_zero, List.set_cons_succ]
      refine wpAnyH_take (i := 5) (v := ?_) rfl (by kernel_rfl) (by kernel_rfl) (by kernel_rfl) (fun _ _ _ h => h) (Or.inl ⟨by kernel_rfl, ?_⟩) (by assumption) ?_
      rotate_left
      · intro w hSw
        try dsimp only at hSw
        go_simp
        try with_reducible rfl
      simp only [List.getElem_toArray, List.getElem_cons_succ, List.getElem_cons_zero, Act.put, List.setIfInBounds_toArray, List.set_cons_zero, List.set_cons_succ]
      refine wpAnyH_take (i := 6) (v := ?_) rfl (by kernel_rfl) (by kernel_rfl) (by kernel_rfl) (fun _ _ _ h => h) (Or.inl ⟨by kernel_rfl, ?_⟩) (by assumption) ?_
      rotate_left
      · intro w hSw
        try dsimp only at hSw
        go_simp
        try with_reducible rfl
      simp only [List.getElem_toArray, List.getElem_cons_succ, List.getElem_cons_zero, Act.put, List.setIfInBounds_toArray, List.set_cons_zero, List.set_cons_succ]
      clear hHeld
      refine wpAnyH_done (by kernel_rfl) ?_ _
      go_wp2
      go_ret
      exact ⟨by rw [HR.out, apartB, HL.out, HF.out, HD.out]; rfl, V.bel⟩
end Go.Proofs.Ytkmioplegjeopaa
