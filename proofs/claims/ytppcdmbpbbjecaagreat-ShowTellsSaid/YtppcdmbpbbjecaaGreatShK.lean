/- Sections that a route holds: contracts of Index, Contains, Has. Nothing that was there is turned. -/
import Derived.Test.YtppcdmbpbbjecaaGreatShJ
namespace Go.Proofs.YtppcdmbpbbjecaaGreat
open Go.RowKit Rf Mem Bv AM
attribute [local go_sem ↓] run_max2 run_min2
attribute [local go_sem] Oper.semAt_some
theorem any_snoc {l : List Int} {j : Nat} {z s : Int} (hz : l[j]? = some z) : (l.take (j + 1)).any (fun x => x == s) = ((l.take j).any (fun x => x == s) || z == s) := by
  rw [List.take_add_one, hz, List.any_append]; simp
theorem any_at {l : List Int} {j : Nat} {z s : Int} (hz : l[j]? = some z) (h : (z == s) = true) : l.any (fun x => x == s) = true := List.any_eq_true.2 ⟨z, List.mem_of_getElem? hz, h⟩
set_option maxHeartbeats 1000000 in
set_option maxRecDepth 100000 in
theorem indexInt_c (v : Value) (l : List Int) (s : Int) (w : World) (hs : SliceAt w 1 v l.length (ints .i64 l)) (hl : l.length ≤ 140737488355328) :
    Calls Tryz.prog 126 #[v, .int .i64 s] w fun e w' => Below w.heap.size w w' ∧ ∃ z : Int, e = .returned (.int .i64 z) ∧ decide (0 ≤ z) = l.any (fun x => x == s) := by
  obtain ⟨A, c, rfl, _⟩ := hs.form
  have HS := Lib.hid hs
  clear hs
  go_enter Tryz.func126, Tryz.ntmps126
  go_wp2
  go_loopw [8] (fun i wr => ∃ j : Nat, j ≤ l.length ∧ i = .int .i64 j ∧ Below w.heap.size w wr ∧ Hid ((l.take j).any (fun x => x == s) = false)) (fun i _ => l.length - (intOf i).toNat)
  case atStart => exact ⟨0, Nat.zero_le _, rfl, Below.refl _ _, Lib.hid rfl⟩
  case round =>
    obtain ⟨j, hj, rfl, B, HN⟩ := hrel
    by_cases hlt : j < l.length
    · obtain ⟨z, hz⟩ : ∃ z, l[j]? = some z := ⟨_, List.getElem?_eq_getElem hlt⟩
      obtain ⟨b, off, c', hv, hc1, hc2, hbl, hc⟩ := (HS.out.later B).pos (by omega)
      obtain ⟨rfl, hd0, rfl⟩ := Value.slice.inj hv
      clear hd0 hv
      have y0 := hc j (.int .i64 z) (by simp [ints, hz])
      have i1 : (j : Int) < (l.length : Int) := by omega
      have HA := Lib.hid (any_snoc (s := s) hz)
      have HB := Lib.hid (any_at (s := s) hz)
      obtain ⟨d, hd⟩ : ∃ d, (z == s) = d := ⟨_, rfl⟩
      have hd' : (s == z) = d := by rw [← hd, Bool.eq_iff_iff, beq_iff_eq, beq_iff_eq]; exact eq_comm
      rw [hd, HN.out] at HA
      have HB2 : Hid (d = true → (l.any fun x => x == s) = true) := Lib.hid (fun h => HB.out (by rw [hd]; exact h))
      clear hz hc hc2 hc1 hd HN HB
      cases d
      · go_wp2
        go_roundw
        case rel => exact ⟨j + 1, by omega, by go_num, B, HA⟩
        case measure => simp [intOf]; omega
      · go_wp2
        go_ret
        exact ⟨B, _, rfl, by rw [HB2.out trivial]; exact decide_eq_true (by omega)⟩
    · obtain rfl : j = l.length := by omega
      rw [List.take_length] at HN
      go_wp2
      go_ret
      exact ⟨B, _, rfl, by rw [HN.out]; rfl⟩
theorem containsInt_c (v : Value) (l : List Int) (s : Int) (r : Bool) (w : World) (hr : r = l.any (fun x => x == s)) (hs : SliceAt w 1 v l.length (ints .i64 l)) (hl : l.length ≤ 140737488355328) :
    Calls Tryz.prog 118 #[v, .int .i64 s] w fun e w' => e = .returned (.bool r) ∧ Below w.heap.size w w' := by
  obtain ⟨A, c, rfl, _⟩ := hs.form
  have HR := Lib.hid hr
  clear hr
  go_enter Tryz.func118, Tryz.ntmps118
  go_wp2_with fail
  refine (indexInt_c _ l s w hs hl).mono ?_
  rintro e W1 ⟨b1, z, rfl, hz⟩
  rw [← HR.out] at hz
  go_wp2
  go_ret
  exact ⟨rfl, b1⟩
set_option maxHeartbeats 1000000 in
set_option maxRecDepth 100000 in
theorem Has_c (cs : List Value) (q : HeldM) (s : Int) (r : Bool) (w : World) (hr : r = hasB q s) (hH : HeldAt w cs q) (hl1 : q.steps.length ≤ 5864062014700) (hl2 : q.over.length ≤ 5864062014700) :
    Calls Tryz.prog 103 #[.agg cs.toArray, .int .i64 s] w fun e w' => e = .returned (.bool r) ∧ Below w.heap.size w w' := by
  have szH := held_size hH.len
  have b0 := below_new w (.cells cs.toArray 75)
  have G := new_at (w := w) rfl (.cells cs.toArray 75)
  have RH := range_of G
  have HH := Lib.hid (hH.later b0)
  have HR := Lib.hid hr
  have hsl2 : (secsL q).length ≤ 140737488355328 := by
    unfold secsL
    rw [List.length_append, List.length_map, List.length_drop]
    have : (if q.opn then ([] : List Int) else q.over.map (·.1)).length ≤ q.over.length := by split <;> simp
    omega
  clear hH hr
  go_enter Tryz.func103, Tryz.ntmps103
  go_upto_region 1 with (fail)
  generalize w.alloc (.cells cs.toArray 75) = W0 at *
  go_wp2_with (first
    | refine wpList_load_g (by rfl) 75 (.tmp 2) (by rfl) w.heap.size 0 (by rfl) cs _ RH Tryz.underlying75 rfl szH ?_
    | fail)
  refine (Sections_c cs q W0 HH.out hl1 hl2).mono ?_
  rintro e W1 ⟨b1, A, c, rfl, hs⟩
  have HSL := Lib.hid hs
  have B1 := below_step b0 b1
  clear hs RH G b0 b1
  go_wp2_with fail
  refine (containsInt_c _ (secsL q) s r W1 HR.out HSL.out hsl2).mono ?_
  rintro e W2 ⟨rfl, b2⟩
  have B2 := below_step B1 b2
  go_wp2
  go_ret
  exact ⟨rfl, B2⟩
end Go.Proofs.YtppcdmbpbbjecaaGreat
