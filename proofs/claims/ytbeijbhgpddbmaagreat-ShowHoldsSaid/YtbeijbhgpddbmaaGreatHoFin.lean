/- What the law looks at of what is shown: the document contracts of Sections, Has, Wants, Holder, Locked, occupied, Proves, Clear, of the law own bit, section, signal; the plain law. Nothing that was there is turned. -/
import Derived.Test.YtbeijbhgpddbmaaGreatShFin
import Derived.Test.YtbeijbhgpddbmaaGreatAspG8
import Derived.Deep.RegionHeld3
import Derived.Deep.CutRange
namespace Go.Proofs.YtbeijbhgpddbmaaGreat
open Go.RowKit Rf Mem Bv AM SM Bits
theorem RowOk.eq {a b : BitVec 32} {n : Nat} {p : Nat → Bool} (h1 : RowOk a n p) (h2 : RowOk b n p) : a = b := by
  refine BitVec.eq_of_getLsbD_eq fun i _ => ?_
  by_cases hi : i < n
  · rw [h1.lo i hi, h2.lo i hi]
  · rw [h1.hi i (by omega), h2.hi i (by omega)]
theorem rowN_ok (Q : Nat → Bool) : ∀ n, n ≤ 32 → RowOk (rowN Q n) n Q
  | 0, _ => rowOk_zero Q
  | n + 1, h => (rowN_ok Q n (by omega)).next (by omega) rfl
theorem decOk_eq {s d d' : ShowM} {kinds : List Int} {nsig : Nat} (h : DecOk s d kinds nsig) (h' : DecOk s d' kinds nsig) : d = d' := by
  have q1 := h.clear.eq h'.clear
  have q2 := h.held.eq h'.held
  have q3 := h.normal.eq h'.normal
  have q4 := h.reverse.eq h'.reverse
  have q5 := h.locked.eq h'.locked
  have q6 := h.off.eq h'.off
  have q7 := h.steady.eq h'.steady
  have q8 := h.flash.eq h'.flash
  have q9 := h.autos.eq h'.autos
  have q10 := h.code.trans h'.code.symm
  have q11 := h.waiting.trans h'.waiting.symm
  have q12 := h.errors.trans h'.errors.symm
  cases d; cases d'
  simp only at q1 q2 q3 q4 q5 q6 q7 q8 q9 q10 q11 q12
  subst q1 q2 q3 q4 q5 q6 q7 q8 q9 q10 q11 q12
  rfl
section
variable (I : IM) (hs : List HeldM) (rq : List (Int × Nat)) (ds : Int) (au : BitVec 32) (code errs : Int)
theorem of_clear {i : Nat} (hi : i < min I.kinds.length 24) : (ofM I hs rq ds au code errs).clear.getLsbD i = !I.occB i := (rowN_ok _ _ (by omega)).lo i hi
theorem of_held {i : Nat} (hi : i < min I.kinds.length 24) : (ofM I hs rq ds au code errs).held.getLsbD i = (holderM hs i).isSome := (rowN_ok _ _ (by omega)).lo i hi
theorem of_normal {i : Nat} (hi : i < min I.kinds.length 24) : (ofM I hs rq ds au code errs).normal.getLsbD i = (pointB I.kinds i && I.stand i == 0) := (rowN_ok _ _ (by omega)).lo i hi
theorem of_reverse {i : Nat} (hi : i < min I.kinds.length 24) : (ofM I hs rq ds au code errs).reverse.getLsbD i = (pointB I.kinds i && I.stand i == 1) := (rowN_ok _ _ (by omega)).lo i hi
theorem of_locked {i : Nat} (hi : i < min I.kinds.length 24) : (ofM I hs rq ds au code errs).locked.getLsbD i = (pointB I.kinds i && lockedM hs i) := (rowN_ok _ _ (by omega)).lo i hi
theorem of_off {i : Nat} (hi : i < min I.nsig 12) : (ofM I hs rq ds au code errs).off.getLsbD i = (sigW (clearB I.stand I.occB I.litB) hs).getLsbD i := by
  show (_ &&& rowN _ _).getLsbD i = _
  rw [BitVec.getLsbD_and, (rowN_ok _ _ (by omega)).lo i hi, Bool.and_true]
theorem of_steady {i : Nat} (hi : i < min I.nsig 12) : (ofM I hs rq ds au code errs).steady.getLsbD i = (hs.any fun h => h.sig == (i : Int)) := (rowN_ok _ _ (by omega)).lo i hi
theorem of_flash {i : Nat} (hi : i < min I.nsig 12) : (ofM I hs rq ds au code errs).flash.getLsbD i = ((ds == (i : Int) || rq.any fun r => r.1 == (i : Int)) && !(hs.any fun h => h.sig == (i : Int))) := by
  show (rowN _ _ &&& ~~~ rowN _ _).getLsbD i = _
  rw [BitVec.getLsbD_and, BitVec.getLsbD_not, (rowN_ok _ _ (by omega)).lo i hi, (rowN_ok _ _ (by omega)).lo i hi]
  simp only [show i < 32 by omega, decide_true, Bool.true_and]
theorem of_autos {i : Nat} (hi : i < min I.nsig 12) : (ofM I hs rq ds au code errs).autos.getLsbD i = au.getLsbD i := by
  show (_ &&& rowN _ _).getLsbD i = _
  rw [BitVec.getLsbD_and, (rowN_ok _ _ (by omega)).lo i hi, Bool.and_true]
theorem of_ok (hc : 0 ≤ code ∧ code ≤ 7) (hr : rq.length ≤ 7) : DecOk (ofM I hs rq ds au code errs) (ofM I hs rq ds au code errs) I.kinds I.nsig := by
  have hand : ∀ (x : BitVec 32) (Q : Nat → Bool) (n i : Nat), n ≤ 32 → n ≤ i → (x &&& rowN Q n).getLsbD i = false := fun x Q n i hn hi => by rw [BitVec.getLsbD_and, (rowN_ok Q n hn).hi i hi, Bool.and_false]
  have hfl : ∀ i, min I.nsig 12 ≤ i → (ofM I hs rq ds au code errs).flash.getLsbD i = false := fun i hi => by
    show (rowN _ _ &&& ~~~ rowN _ _).getLsbD i = _
    rw [BitVec.getLsbD_and, (rowN_ok _ _ (by omega)).hi i hi, Bool.false_and]
  have hpt : ∀ i : Nat, pt I.kinds i = pointB I.kinds i := fun i => rfl
  refine ⟨⟨fun _ _ => rfl, (rowN_ok _ _ (by omega)).hi⟩, ⟨fun _ _ => rfl, (rowN_ok _ _ (by omega)).hi⟩, ⟨fun i hi => ?_, (rowN_ok _ _ (by omega)).hi⟩, ⟨fun i hi => ?_, (rowN_ok _ _ (by omega)).hi⟩, ⟨fun i hi => ?_, (rowN_ok _ _ (by omega)).hi⟩, ⟨fun _ _ => rfl, fun i hi => hand _ _ _ _ (by omega) hi⟩, ⟨fun i hi => ?_, (rowN_ok _ _ (by omega)).hi⟩, ⟨fun i hi => ?_, hfl⟩, ⟨fun _ _ => rfl, fun i hi => hand _ _ _ _ (by omega) hi⟩, ?_, ?_, ?_⟩
  · rw [of_normal I hs rq ds au code errs hi, of_reverse I hs rq ds au code errs hi, hpt]
    cases pointB I.kinds i
    · rfl
    · by_cases h : I.stand (i : Int) = 0
      · simp [h]
      · simp [h]
  · rw [of_normal I hs rq ds au code errs hi, of_reverse I hs rq ds au code errs hi, hpt]
    cases pointB I.kinds i
    · rfl
    · by_cases h : I.stand (i : Int) = 1
      · simp [h]
      · simp [h]
  · rw [of_locked I hs rq ds au code errs hi, hpt]
    cases pointB I.kinds i <;> simp
  · rw [flashM_bit]
    cases (ofM I hs rq ds au code errs).steady.getLsbD i <;> simp
  · rw [flashM_bit, of_flash I hs rq ds au code errs hi, of_steady I hs rq ds au code errs hi]
    cases (hs.any fun h => h.sig == (i : Int)) <;> simp
  · show code = _; show code = ((min code 7).toNat : Int); omega
  · show (rq.length : Int) = ((min (max (rq.length : Int) 0) 7).toNat : Int); omega
  · show errs % 256 = ((max (errs % 256) 0 % 256).toNat : Int); omega
/-- what is shown, put and taken again, is as it was -/
theorem of_round {B : List (BitVec 8)} {t : ShowM} {e : Int} (hc : 0 ≤ code ∧ code ≤ 7) (hr : rq.length ≤ 7) (hB : Bits.Holds B (fbits (flds (ofM I hs rq ds au code errs) I.kinds I.nsig))) (ht : TakeR B I.kinds I.nsig t e) : e = 0 ∧ t = ofM I hs rq ds au code errs := by
  obtain ⟨he, hd, _⟩ := take_put (s := ofM I hs rq ds au code errs) hc.1 hB ht
  refine ⟨he, hd.trans ?_⟩
  obtain ⟨rest, h1⟩ := holds_split hB
  rw [h1]
  exact decOk_eq (decOk _ _ _ rest hc.1) (of_ok I hs rq ds au code errs hc hr)
theorem sigW_bit (cl : HeldM → Bool) {i : Nat} (hi : i < 12) : ∀ l : List HeldM, (sigW cl l).getLsbD i = l.any fun h => h.sig == (i : Int) && cl h
  | [] => by simp [sigW]
  | h :: r => by
    rw [sigW, BitVec.getLsbD_or, sigW_bit cl hi r, List.any_cons]
    congr 1
    unfold sigBit
    by_cases hs : h.sig = (i : Int)
    · cases hc : cl h
      · simp
      · rw [if_pos (by simp [hs]; omega), BitVec.getLsbD_twoPow, hs]
        simp; omega
    · rw [show (h.sig == (i : Int)) = false by simpa using hs, Bool.false_and]
      split
      · rename_i h1
        simp only [Bool.and_eq_true, decide_eq_true_eq] at h1
        rw [BitVec.getLsbD_twoPow]
        simp only [Bool.and_eq_false_iff, decide_eq_false_iff_not]
        right
        intro e
        apply hs
        have : (h.sig.toNat : Int) = h.sig := Int.toNat_of_nonneg h1.2.1
        omega
      · simp
end
end Go.Proofs.YtbeijbhgpddbmaaGreat
namespace Go.Proofs.YtbeijbhgpddbmaaGreat
open Go.RowKit Rf Mem Bv AM
attribute [local go_sem ↓] run_max2 run_min2
theorem info_int : (Tryz.prog.info? 3).map (fun i => (i.zero, i.size, i.bytes)) = some (some (.int .i64 0), 1, 8) := by kernel_rfl
theorem iints_one (k : IntKind) (zs : List Int) : ∀ u ∈ ints k zs, u.oneCell' = true := fun u hu => by
  simp only [List.mem_map] at hu
  obtain ⟨z, _, rfl⟩ := hu; rfl
/-- a row of numbers that the call owns; V0: the world behind its variables -/
structure RowI (V0 W : World) (v : Value) (l : List Int) : Prop where
  bel : Below V0.heap.size V0 W
  o : W.ownsRow V0.heap.size 3 1 v l.length (ints .i64 l)
theorem RowI.later {V0 W W' : World} {v : Value} {l : List Int} (h : RowI V0 W v l) (b : Below W.heap.size W W') : RowI V0 W' v l := ⟨below_step h.bel b, own_bel h.o b⟩
theorem RowI.push {V0 W W1 w1 : World} {v v1 : Value} {l : List Int} {z : Int} (h : RowI V0 W v l) (b : Below W.heap.size W W1) (ho : w1.ownsRow V0.heap.size 3 1 v1 (l.length + 1) (ints .i64 l ++ [.int .i64 z])) (hg : W1.grownBy w1 v.ownBlock) : RowI V0 w1 v1 (l ++ [z]) := by
  refine ⟨below_own (below_step h.bel b) hg (by have := h.bel.size; have := b.size; omega) (fun g hg => (own_base h.o hg).1), ?_⟩
  rw [List.length_append, List.length_singleton, show ints .i64 (l ++ [z]) = ints .i64 l ++ [.int .i64 z] by simp [ints]]; exact ho
theorem RowI.at_ {V0 W : World} {v : Value} {l : List Int} (h : RowI V0 W v l) : ∃ A c, v = .slice A l.length c ∧ SliceAt W 1 (.slice A l.length c) l.length (ints .i64 l) := by
  obtain ⟨A, c, rfl, _, _⟩ := (sliceAt_of_own h.o).form
  exact ⟨A, c, rfl, sliceAt_of_own h.o⟩
theorem rowI_nil (V0 : World) : RowI V0 V0 (.slice none 0 0) [] := ⟨Below.refl _ _, own_nil _ _ _ _⟩
theorem sliceAt_one {w : World} {g : Nat} {e : TypeId} {f : Nat × Nat} {u : Value} (h : w.heap[g]? = some (.cells #[u] e f)) : SliceAt w 1 (.slice (some ⟨g, 0, none⟩) 1 1) 1 [u] :=
  ⟨some ⟨g, 0, none⟩, 1, rfl, Nat.le_refl _, by simp [maxLen], rfl, .inr ⟨g, 0, rfl, (Array.getElem?_eq_some_iff.1 h).1, fun i u hu => by rw [Nat.zero_add, cell_at h]; simpa using hu⟩⟩
/-- the sections of the steps from g to k -/
def part1 (l : List T3) (g k : Nat) : List Int := ((l.take k).drop g).map (·.1)
theorem part1_succ {l : List T3} {g k : Nat} {x : T3} (hx : l[k]? = some x) (hg : g ≤ k) : part1 l g (k + 1) = part1 l g k ++ [x.1] := by
  have hk := (List.getElem?_eq_some_iff.1 hx).1
  unfold part1
  rw [List.take_add_one, hx, Option.toList_some, List.drop_append_of_le_length (by rw [List.length_take]; omega), List.map_append]; rfl
theorem part1_zero (l : List T3) (g : Nat) : part1 l g g = [] := by
  unfold part1
  rw [List.map_eq_nil_iff, List.drop_eq_nil_iff, List.length_take]; omega
theorem part1_all (l : List T3) (g k : Nat) (hk : l.length ≤ k) : part1 l g k = (l.drop g).map (·.1) := by unfold part1; rw [List.take_of_length_le hk]
theorem part1_len (l : List T3) (g k : Nat) : (part1 l g k).length ≤ l.length := by
  unfold part1; rw [List.length_map, List.length_drop, List.length_take]; omega
set_option maxHeartbeats 1000000 in
set_option maxRecDepth 100000 in
theorem refSections_c (cs : List Value) (q : HeldM) (w : World) (h : HeldAt w cs q) (hl1 : q.steps.length ≤ 5864062014700) (hl2 : q.over.length ≤ 5864062014700) :
    Calls Tryz.prog 117 #[.agg cs.toArray] w fun e w' => ∃ A c, e = .returned (.slice A (secsL q).length c) ∧ Below w.heap.size w w' ∧ SliceAt w' 1 (.slice A (secsL q).length c) (secsL q).length (ints .i64 (secsL q)) := by
  obtain ⟨i0, hi, hz0, hz1, hz2⟩ := info_parts info_int
  have b0 := below_new w (.cells cs.toArray 80)
  have G := new_at (w := w) rfl (.cells cs.toArray 80)
  obtain ⟨v3, e3, t3⟩ := h.st
  obtain ⟨v4, e4, t4⟩ := h.ov
  obtain ⟨A3, c3, rfl⟩ := t3.form
  obtain ⟨A4, c4, rfl⟩ := t4.form
  obtain ⟨ls, hls⟩ : ∃ l, q.steps = l := ⟨_, rfl⟩
  obtain ⟨lo, hlo⟩ : ∃ l, q.over = l := ⟨_, rfl⟩
  obtain ⟨op, hop⟩ : ∃ l, q.opn = l := ⟨_, rfl⟩
  obtain ⟨g, hg⟩ : ∃ g, max q.gone 0 = g := ⟨_, rfl⟩
  have hS : secsL q = (ls.drop g.toNat).map (·.1) ++ (if op then [] else lo.map (·.1)) := by unfold secsL; rw [hls, hlo, hop, hg]
  rw [hls] at t3 e3 hl1
  rw [hlo] at t4 e4 hl2
  have HS := Lib.hid hS
  have HT3 := Lib.hid t3
  have HT4 := Lib.hid t4
  have HE3 := Lib.hid e3
  have HE4 := Lib.hid e4
  have HE7 := Lib.hid h.gone
  have HEo := Lib.hid (hop ▸ h.opn)
  have HG := Lib.hid hg
  have hg0 : 0 ≤ g := by omega
  clear hls hlo hop hS t3 t4 e3 e4 h
  go_enter Tryz.func117, Tryz.ntmps117
  go_upto_region 2 with (fail)
  generalize w.alloc (.cells cs.toArray 80) = W0 at *
  have x7 := cell_list G HE7.out
  go_upto_region 3 with (fail)
  clear x7 hg
  obtain ⟨gn, rfl⟩ := Int.eq_ofNat_of_zero_le hg0
  rw [Int.toNat_natCast] at HS
  go_wp2
  go_loopw [3, 4] (fun v i wr => ∃ k : Nat, gn ≤ k ∧ (k ≤ ls.length ∨ k = gn) ∧ i = .int .i64 k ∧ RowI W0 wr v (part1 ls gn k)) (fun v i _ => ls.length - (intOf i).toNat)
  case atStart => exact ⟨gn, Nat.le_refl _, .inr rfl, rfl, by rw [part1_zero]; exact rowI_nil _⟩
  case round =>
    obtain ⟨k, hk, hk2, rfl, R⟩ := hrel
    obtain ⟨m, hm⟩ : ∃ m, part1 ls gn k = m := ⟨_, rfl⟩
    have hml : m.length ≤ ls.length := by rw [← hm]; exact part1_len _ _ _
    rw [hm] at R
    have HM := Lib.hid hm
    clear hm
    have GH := var_later G R.bel
    have y3 := cell_list GH HE3.out
    by_cases hkl : k < ls.length
    · have i1 : (k : Int) < (ls.length : Int) := by omega
      have i2 : decide (k < ls.length) = true := decide_eq_true hkl
      obtain ⟨x, hx⟩ : ∃ x, ls[k]? = some x := ⟨_, List.getElem?_eq_getElem hkl⟩
      obtain ⟨bp, o1, cc, hv', x0, x1, x2⟩ := t3_cells (HT3.out.later (below_step b0 R.bel)) hx
      obtain ⟨rfl, hd, rfl⟩ := Value.slice.inj hv'
      have HX := Lib.hid (part1_succ hx hk)
      obtain ⟨a, b, c⟩ := x
      simp only at x0
      clear hv' hx hd x1 x2
      have bN := below_new wr (.cells #[.int .i64 a] 3)
      have hown := (R.later bN).o
      have hsz := R.bel.size
      go_wp2_with (at_builtin; refine wpList_append_src (by rfl) (.tmp 17) (.tmp 25) _ (by rfl) W0.heap.size 3 i0 _ 1 8 Tryz.underlying42 hi hz0 hz1 hz2 rfl (by omega) u3 m.length (ints .i64 m) (by rfl) hown (.slice (some ⟨wr.heap.size, 0, none⟩) 1 1) 1 [.int .i64 a] (by rfl) (sliceAt_one (new_at rfl _)) (by simp [Value.oneCell']) (by simp only [maxLen]; omega) (by omega) (by simp; omega) ?_; intro v1 w2 ho1 hg1 hw1)
      have R2 := R.push bN ho1 hg1
      go_roundw
      case rel => exact ⟨k + 1, by omega, .inl (by omega), by go_num, by rw [HX.out, HM.out]; exact R2⟩
      case measure => simp [intOf]; omega
    · have i2 : decide (k < ls.length) = false := decide_eq_false hkl
      have i1 : decide ((k : Int) < (ls.length : Int)) = false := decide_eq_false (by omega)
      have HA : Hid (m = (ls.drop gn).map (·.1)) := Lib.hid (by rw [← HM.out]; exact part1_all _ _ _ (by omega))
      clear hk hk2 hkl HM
      cases op
      · go_wp2
        go_loopw [3, 5] (fun v i wr => ∃ s : Nat, s ≤ lo.length ∧ i = .int .i64 s ∧ RowI W0 wr v (m ++ part1 lo 0 s)) (fun v i _ => lo.length - (intOf i).toNat)
        case atStart => exact ⟨0, Nat.zero_le _, rfl, by rw [part1_zero, List.append_nil]; exact R⟩
        case round =>
          clear R GH y3
          obtain ⟨s, hs, rfl, R⟩ := hrel
          obtain ⟨m2, hm2⟩ : ∃ m2, m ++ part1 lo 0 s = m2 := ⟨_, rfl⟩
          have hml2 : m2.length ≤ ls.length + lo.length := by rw [← hm2, List.length_append]; have := part1_len lo 0 s; omega
          rw [hm2] at R
          have HM2 := Lib.hid hm2
          clear hm2
          have GH := var_later G R.bel
          have y4 := cell_list GH HE4.out
          have y20 := cell_list GH HEo.out
          by_cases hsl : s < lo.length
          · have j1 : (s : Int) < (lo.length : Int) := by omega
            have j2 : decide (s < lo.length) = true := decide_eq_true hsl
            obtain ⟨x, hx⟩ : ∃ x, lo[s]? = some x := ⟨_, List.getElem?_eq_getElem hsl⟩
            obtain ⟨bp, o1, cc, hv', x0, x1, x2⟩ := t3_cells (HT4.out.later (below_step b0 R.bel)) hx
            obtain ⟨rfl, hd, rfl⟩ := Value.slice.inj hv'
            have HX := Lib.hid (part1_succ hx (Nat.zero_le s))
            have hm2l : m2.length + 1 ≤ ls.length + lo.length := by rw [← HM2.out, List.length_append]; unfold part1; rw [List.length_map, List.drop_zero, List.length_take]; omega
            obtain ⟨a, b, c⟩ := x
            simp only at x0
            clear hv' hx hd x1 x2
            have bN := below_new wr (.cells #[.int .i64 a] 3)
            have hown := (R.later bN).o
            have hsz := R.bel.size
            go_wp2_with (at_builtin; refine wpList_append_src (by rfl) (.tmp 39) (.tmp 46) _ (by rfl) W0.heap.size 3 i0 _ 1 8 Tryz.underlying42 hi hz0 hz1 hz2 rfl (by omega) u3 m2.length (ints .i64 m2) (by rfl) hown (.slice (some ⟨wr.heap.size, 0, none⟩) 1 1) 1 [.int .i64 a] (by rfl) (sliceAt_one (new_at rfl _)) (by simp [Value.oneCell']) (by simp only [maxLen]; omega) (by omega) (by simp; omega) ?_; intro v1 w2 ho1 hg1 hw1)
            have R2 := R.push bN ho1 hg1
            go_roundw
            case rel => exact ⟨s + 1, by omega, by go_num, by rw [HX.out, ← List.append_assoc, HM2.out]; exact R2⟩
            case measure => simp [intOf]; omega
          · obtain rfl : s = lo.length := by omega
            have j2 : decide (lo.length < lo.length) = false := decide_eq_false (by omega)
            go_wp2
            go_ret
            have e : secsL q = m2 := by rw [HS.out, ← HM2.out, HA.out, part1_all _ _ _ (Nat.le_refl _)]; rfl
            obtain ⟨A, c, rfl, hs⟩ := R.at_
            rw [e]
            exact ⟨A, c, rfl, below_step b0 R.bel, hs⟩
      · have y4 := cell_list GH HE4.out
        have y20 := cell_list GH HEo.out
        go_wp2
        go_loopw [3, 5] (fun v i wr => i = .int .i64 0 ∧ RowI W0 wr v m) (fun v i _ => 0)
        case atStart => exact ⟨rfl, R⟩
        case round =>
          clear R GH y3 y4 y20
          obtain ⟨rfl, R⟩ := hrel
          have GH := var_later G R.bel
          have y4 := cell_list GH HE4.out
          have y20 := cell_list GH HEo.out
          have e : secsL q = m := by rw [HS.out, HA.out]; simp
          obtain ⟨A, c, rfl, hs⟩ := R.at_
          by_cases h0 : 0 < lo.length
          · have d1 : decide (0 < lo.length) = true := decide_eq_true h0
            have d2 : decide ((0 : Int) < (lo.length : Int)) = true := decide_eq_true (by omega)
            go_wp2
            go_ret
            rw [e]
            exact ⟨A, c, rfl, below_step b0 R.bel, hs⟩
          · have d1 : decide (0 < lo.length) = false := decide_eq_false h0
            have d2 : decide ((0 : Int) < (lo.length : Int)) = false := decide_eq_false (by omega)
            go_wp2
            go_ret
            rw [e]
            exact ⟨A, c, rfl, below_step b0 R.bel, hs⟩
theorem icell_at {W : World} {A : Option Addr} {c n : Nat} {l : List Int} (h : SliceAt W 1 (.slice A n c) n (ints .i64 l)) {k : Nat} {z : Int} (hz : l[k]? = some z) (hn : n = l.length) : ∃ b off, A = some ⟨b, off, none⟩ ∧ W.cell? ⟨b, off + k, none⟩ = some (.int .i64 z) := by
  have hk := (List.getElem?_eq_some_iff.1 hz).1
  obtain ⟨b, off, c', hv, _, _, _, hc⟩ := SliceAt.pos h (by omega)
  obtain ⟨rfl, _, rfl⟩ := Value.slice.inj hv
  exact ⟨b, off, rfl, hc k _ (by rw [List.getElem?_map, hz]; rfl)⟩
set_option maxHeartbeats 1000000 in
set_option maxRecDepth 100000 in
theorem refHas_c (cs : List Value) (q : HeldM) (s : Int) (r : Bool) (w : World) (hr : r = hasB q s) (h : HeldAt w cs q) (hl1 : q.steps.length ≤ 5864062014700) (hl2 : q.over.length ≤ 5864062014700) :
    Calls Tryz.prog 90 #[.agg cs.toArray, .int .i64 s] w fun e w' => e = .returned (.bool r) ∧ Below w.heap.size w w' := by
  have b0 := below_new w (.cells cs.toArray 80)
  have G := new_at (w := w) rfl (.cells cs.toArray 80)
  have h0 := h.later b0
  have sz := held_size h.len
  have RH := range_of G
  have HR := Lib.hid hr
  clear hr h
  go_enter Tryz.func90, Tryz.ntmps90
  go_upto_region 1 with (fail)
  generalize w.alloc (.cells cs.toArray 80) = W0 at *
  go_wp2_with (first | refine wpList_load_g (by rfl) 80 (.tmp 2) (by rfl) w.heap.size 0 (by rfl) cs _ RH Tryz.underlying80 rfl sz ?_ | fail)
  refine (refSections_c cs q _ h0 hl1 hl2).mono ?_
  rintro e W1 ⟨A, c, rfl, b1, hs⟩
  obtain ⟨l, hl⟩ : ∃ l, secsL q = l := ⟨_, rfl⟩
  rw [hl] at hs
  have hln : l.length ≤ 11728124029400 := by rw [← hl]; unfold secsL; rw [List.length_append, List.length_map, List.length_drop]; split <;> simp <;> omega
  have HL := Lib.hid hl
  rw [hl]
  clear hl RH
  have B := below_step b0 b1
  go_wp2
  go_loopw [6] (fun i wr => ∃ k : Nat, k ≤ l.length ∧ i = .int .i64 k ∧ wr = W1 ∧ Hid ((l.take k).any (fun x => x == s) = false)) (fun i _ => l.length - (intOf i).toNat)
  case atStart => exact ⟨0, Nat.zero_le _, rfl, rfl, Lib.hid rfl⟩
  case round =>
    obtain ⟨k, hk, rfl, rfl, HK⟩ := hrel
    by_cases hkl : k < l.length
    · have i1 : (k : Int) < (l.length : Int) := by omega
      have i2 : decide (k < l.length) = true := decide_eq_true hkl
      obtain ⟨x, hx⟩ : ∃ x, l[k]? = some x := ⟨_, List.getElem?_eq_getElem hkl⟩
      obtain ⟨b, off, rfl, x0⟩ := icell_at hs hx rfl
      have HX := Lib.hid hx
      obtain ⟨d, hd⟩ : ∃ d, (x == s) = d := ⟨_, rfl⟩
      have HD := Lib.hid hd
      clear hx
      cases d
      · go_wp2
        go_roundw
        case rel => exact ⟨k + 1, by omega, by go_num, trivial, Lib.hid (by rw [any_take _ l k x HX.out, HK.out, HD.out]; rfl)⟩
        case measure => simp [intOf]; omega
      · go_wp2
        go_ret
        refine ⟨?_, B⟩
        rw [HR.out, hasB, HL.out]
        rw [List.any_eq_true.2 ⟨x, List.mem_of_getElem? HX.out, HD.out⟩]; rfl
    · obtain rfl : k = l.length := by omega
      have i2 : decide (l.length < l.length) = false := decide_eq_false (by omega)
      go_wp2
      go_ret
      refine ⟨?_, B⟩
      have e := HK.out
      rw [List.take_length] at e
      rw [HR.out, hasB, HL.out, e]; rfl
end Go.Proofs.YtbeijbhgpddbmaaGreat
namespace Go.Proofs.YtbeijbhgpddbmaaGreat
open Go.RowKit Rf Mem Bv AM SM
attribute [local go_sem ↓] run_max2 run_min2
theorem any_takeP {α : Type} (p : α → Bool) (l : List α) (k : Nat) (x : α) (h : l[k]? = some x) : (l.take (k + 1)).any p = ((l.take k).any p || p x) := by
  rw [List.take_add_one, h, List.any_append]; simp
set_option maxHeartbeats 1000000 in
set_option maxRecDepth 100000 in
theorem refWants_c (cs : List Value) (q : HeldM) (p : Int) (r : Bool) (w : World) (hr : r = wantsB q p) (h : HeldAt w cs q) (hl : q.needs.length ≤ 5864062014700) :
    Calls Tryz.prog 91 #[.agg cs.toArray, .int .i64 p] w fun e w' => Below w.heap.size w w' ∧ ∃ z : Int, e = .returned (.tuple #[.int .i64 z, .bool r]) := by
  have b0 := below_new w (.cells cs.toArray 80)
  have G := new_at (w := w) rfl (.cells cs.toArray 80)
  have h0 := h.later b0
  have sz := held_size h.len
  have RH := range_of G
  have HR := Lib.hid hr
  clear hr h
  go_enter Tryz.func91, Tryz.ntmps91
  go_upto_region 1 with (fail)
  generalize w.alloc (.cells cs.toArray 80) = W0 at *
  go_wp2_with (first | refine wpList_load_g (by rfl) 80 (.tmp 2) (by rfl) w.heap.size 0 (by rfl) cs _ RH Tryz.underlying80 rfl sz ?_ | fail)
  refine (refNeeds_c cs q _ h0 hl).mono ?_
  rintro e W1 ⟨vn, rfl, b1, TN⟩
  obtain ⟨l, hll⟩ : ∃ l, needsL q = l := ⟨_, rfl⟩
  have hln : l.length ≤ 5864062014700 := by rw [← hll]; exact Nat.le_trans (List.length_filter_le _ _) hl
  rw [hll] at TN
  have HL := Lib.hid hll
  obtain ⟨An, cn, rfl⟩ := TN.form
  have HT := Lib.hid TN
  clear hll TN RH
  have B := below_step b0 b1
  go_wp2
  go_loopw [7] (fun i wr => ∃ k : Nat, k ≤ l.length ∧ i = .int .i64 k ∧ wr = W1 ∧ Hid ((l.take k).any (fun x => x.1 == p) = false)) (fun i _ => l.length - (intOf i).toNat)
  case atStart => exact ⟨0, Nat.zero_le _, rfl, rfl, Lib.hid rfl⟩
  case round =>
    obtain ⟨k, hk, rfl, rfl, HK⟩ := hrel
    by_cases hkl : k < l.length
    · have i1 : (k : Int) < (l.length : Int) := by omega
      have i2 : decide (k < l.length) = true := decide_eq_true hkl
      obtain ⟨x, hx⟩ : ∃ x, l[k]? = some x := ⟨_, List.getElem?_eq_getElem hkl⟩
      obtain ⟨b, off, cc, hv, x0, x1, x2⟩ := t3_cells HT.out hx
      obtain ⟨rfl, _, rfl⟩ := Value.slice.inj hv
      have HX := Lib.hid hx
      obtain ⟨a1, p1, c1⟩ := x
      simp only at x0 x1 x2
      obtain ⟨d, hd⟩ : ∃ d, (a1 == p) = d := ⟨_, rfl⟩
      have HD := Lib.hid hd
      clear hx hv
      cases d
      · go_wp2
        go_roundw
        case rel => exact ⟨k + 1, by omega, by go_num, trivial, Lib.hid (by rw [any_takeP _ l k _ HX.out, HK.out]; exact HD.out)⟩
        case measure => simp [intOf]; omega
      · go_wp2
        refine bodyPost_ret (results_tmp2 rfl _ _ _) rfl ?_
        refine ⟨B, ?_⟩
        rw [HR.out, wantsB, HL.out]
        rw [List.any_eq_true.2 ⟨_, List.mem_of_getElem? HX.out, HD.out⟩]
        exact ⟨p1, rfl⟩
    · obtain rfl : k = l.length := by omega
      have i2 : decide (l.length < l.length) = false := decide_eq_false (by omega)
      go_wp2
      refine bodyPost_ret (results_tmp2 rfl _ _ _) rfl ?_
      refine ⟨B, ?_⟩
      have e := HK.out
      rw [List.take_length] at e
      rw [HR.out, wantsB, HL.out, e]
      exact ⟨0, rfl⟩
/-- a kernel in a variable of its own -/
structure KB (w W : World) (K : List Value) (vh : Value) (css : List (List Value)) (hs : List HeldM) (nx : Int) (ms : List (Int × Int × Bool)) : Prop where
  bel : Below w.heap.size w W
  kb : W.heap[w.heap.size]? = some (.cells K.toArray 41 (0, 0))
  k : KerAt W K vh css hs nx ms
theorem KB.later {w W W' : World} {K : List Value} {vh : Value} {css : List (List Value)} {hs : List HeldM} {nx : Int} {ms : List (Int × Int × Bool)} (h : KB w W K vh css hs nx ms) (b : Below W.heap.size W W') : KB w W' K vh css hs nx ms := ⟨below_step h.bel b, var_later h.kb b, h.k.later b⟩
theorem holder_none {hs : List HeldM} {s : Int} (h : hs.any (fun q => hasB q s) = false) : holderM hs s = none := by
  unfold holderM
  rw [List.find?_eq_none]
  intro q hq hh
  exact absurd (List.any_eq_true.2 ⟨q, hq, hh⟩) (by rw [h]; simp)
theorem holder_some {hs : List HeldM} {s : Int} {q : HeldM} (hm : q ∈ hs) (hq : hasB q s = true) : (holderM hs s).isSome = true := by
  unfold holderM
  rw [List.find?_isSome]
  exact ⟨q, hm, hq⟩
set_option maxHeartbeats 2000000 in
set_option maxRecDepth 100000 in
theorem refHolder_c (K : List Value) (vh : Value) (css : List (List Value)) (hs : List HeldM) (nx : Int) (ms : List (Int × Int × Bool)) (s : Int) (r : Bool) (w : World) (hr : r = (holderM hs s).isSome) (hK : KerAt w K vh css hs nx ms) (hlen : hs.length ≤ 5864062014700) (hsm : Few hs) :
    Calls Tryz.prog 57 #[.agg K.toArray, .int .i64 s] w fun e w' => Below w.heap.size w w' ∧ ∃ z : Int, e = .returned (.tuple #[.int .i64 z, .bool r]) := by
  have b0 := below_new w (.cells K.toArray 41)
  have V : KB w (w.alloc (.cells K.toArray 41)) K vh css hs nx ms := ⟨b0, new_at rfl _, hK.later b0⟩
  have HR := Lib.hid hr
  have HSM := Lib.hid hsm
  have hll := hK.hs.len
  obtain ⟨Ah, ch, rfl, _⟩ := hK.hs.sl.form
  clear hr hK hsm b0
  go_enter Tryz.func57, Tryz.ntmps57
  go_upto_region 1 with (fail)
  generalize w.alloc (.cells K.toArray 41) = W0 at *
  obtain ⟨n, hn⟩ : ∃ n, css.length = n := ⟨_, rfl⟩
  have HN := Lib.hid hn
  have HH := Lib.hid (hn ▸ V.k.held)
  have hn1 : n ≤ 5864062014700 := by omega
  clear hn hll hlen
  go_wp2
  go_loopw [6] (fun i wr => ∃ k : Nat, k ≤ n ∧ i = .int .i64 k ∧ KB w wr K (.slice Ah css.length ch) css hs nx ms ∧ Hid ((hs.take k).any (fun q => hasB q s) = false)) (fun i _ => n - (intOf i).toNat)
  case atStart => exact ⟨0, Nat.zero_le _, rfl, V, Lib.hid rfl⟩
  case round =>
    clear V
    obtain ⟨k, hk, rfl, V, HKK⟩ := hrel
    have y1 := cell_list V.kb HH.out
    by_cases hlt : k < n
    · have hcl : css.length = n := HN.out
      obtain ⟨cs, hcs⟩ : ∃ s, css[k]? = some s := ⟨_, List.getElem?_eq_getElem (by omega)⟩
      obtain ⟨q, hq⟩ : ∃ s, hs[k]? = some s := ⟨_, List.getElem?_eq_getElem (by rw [← V.k.hs.len]; omega)⟩
      obtain ⟨b, off, c', hv, hrow⟩ := V.k.hs.row hcs
      have hHq := V.k.hs.at_ k cs q hcs hq
      obtain ⟨rfl, _, rfl⟩ := Value.slice.inj hv
      obtain ⟨s1, s2, s3⟩ := HSM.out q (List.mem_of_getElem? hq)
      have szS := held_size hHq.len
      have i1 : (k : Int) < (n : Int) := by omega
      have i2 : decide (k < n) = true := decide_eq_true hlt
      have HC := Lib.hid hq
      have HI := Lib.hid hHq.id
      have blt := World.block_lt_of_cell? _ _ (hrow 0 _ hHq.id)
      clear hcs hq hv hcl
      obtain ⟨d, hd⟩ : ∃ d, hasB q s = d := ⟨_, rfl⟩
      have HD := Lib.hid hd
      clear hd
      go_wp2_with (first
        | refine wpList_load_g (by rfl) 80 (.tmp 17) (by rfl) b (off + k * 23) (by rfl) cs _ hrow Tryz.underlying80 rfl szS ?_
        | fail)
      refine (refHas_c cs q s d _ HD.out.symm hHq s2 s3).mono ?_
      rintro e W4 ⟨rfl, b4⟩
      replace V := V.later b4
      have hrow' := range_below hrow b4 blt
      have y1 := cell_list V.kb HH.out
      have z0 := hrow' 0 _ HI.out
      rw [Nat.add_zero] at z0
      clear b4 hrow hrow' hHq
      cases d
      · clear z0
        go_wp2
        go_roundw
        case rel => exact ⟨k + 1, by omega, by go_num, V, Lib.hid (by rw [any_takeP _ hs k q HC.out, HKK.out, HD.out]; rfl)⟩
        case measure => simp [intOf]; omega
      · go_wp2
        refine bodyPost_ret (results_tmp2 rfl _ _ _) rfl ?_
        refine ⟨V.bel, ?_⟩
        rw [HR.out, holder_some (List.mem_of_getElem? HC.out) HD.out]
        exact ⟨_, rfl⟩
    · obtain rfl : k = n := by omega
      have i2 : decide (k < k) = false := decide_eq_false (by omega)
      have hcl : css.length = k := HN.out
      have hhl := V.k.hs.len
      have e := HKK.out
      rw [List.take_of_length_le (by omega)] at e
      have HE := Lib.hid (holder_none e)
      clear e hhl hcl
      go_wp2
      refine bodyPost_ret (results_tmp2 rfl _ _ _) rfl ?_
      refine ⟨V.bel, ?_⟩
      rw [HR.out, HE.out]
      exact ⟨0, rfl⟩
set_option maxHeartbeats 2000000 in
set_option maxRecDepth 100000 in
theorem refLocked_c (K : List Value) (vh : Value) (css : List (List Value)) (hs : List HeldM) (nx : Int) (ms : List (Int × Int × Bool)) (p : Int) (r : Bool) (w : World) (hr : r = lockedM hs p) (hK : KerAt w K vh css hs nx ms) (hlen : hs.length ≤ 5864062014700) (hsm : Few hs) :
    Calls Tryz.prog 59 #[.agg K.toArray, .int .i64 p] w fun e w' => e = .returned (.bool r) ∧ Below w.heap.size w w' := by
  have b0 := below_new w (.cells K.toArray 41)
  have V : KB w (w.alloc (.cells K.toArray 41)) K vh css hs nx ms := ⟨b0, new_at rfl _, hK.later b0⟩
  have HR := Lib.hid hr
  have HSM := Lib.hid hsm
  have hll := hK.hs.len
  obtain ⟨Ah, ch, rfl, _⟩ := hK.hs.sl.form
  clear hr hK hsm b0
  go_enter Tryz.func59, Tryz.ntmps59
  go_upto_region 1 with (fail)
  generalize w.alloc (.cells K.toArray 41) = W0 at *
  obtain ⟨n, hn⟩ : ∃ n, css.length = n := ⟨_, rfl⟩
  have HN := Lib.hid hn
  have HH := Lib.hid (hn ▸ V.k.held)
  have hn1 : n ≤ 5864062014700 := by omega
  clear hn hll hlen
  go_wp2
  go_loopw [5] (fun i wr => ∃ k : Nat, k ≤ n ∧ i = .int .i64 k ∧ KB w wr K (.slice Ah css.length ch) css hs nx ms ∧ Hid ((hs.take k).any (fun h => wantsB h p && h.stage != 1) = false)) (fun i _ => n - (intOf i).toNat)
  case atStart => exact ⟨0, Nat.zero_le _, rfl, V, Lib.hid rfl⟩
  case round =>
    clear V
    obtain ⟨k, hk, rfl, V, HKK⟩ := hrel
    have y1 := cell_list V.kb HH.out
    by_cases hlt : k < n
    · have hcl : css.length = n := HN.out
      obtain ⟨cs, hcs⟩ : ∃ s, css[k]? = some s := ⟨_, List.getElem?_eq_getElem (by omega)⟩
      obtain ⟨q, hq⟩ : ∃ s, hs[k]? = some s := ⟨_, List.getElem?_eq_getElem (by rw [← V.k.hs.len]; omega)⟩
      obtain ⟨b, off, c', hv, hrow⟩ := V.k.hs.row hcs
      have hHq := V.k.hs.at_ k cs q hcs hq
      obtain ⟨rfl, _, rfl⟩ := Value.slice.inj hv
      obtain ⟨s1, s2, s3⟩ := HSM.out q (List.mem_of_getElem? hq)
      have szS := held_size hHq.len
      have i1 : (k : Int) < (n : Int) := by omega
      have i2 : decide (k < n) = true := decide_eq_true hlt
      have HC := Lib.hid hq
      have HI := Lib.hid hHq.stage
      have blt := World.block_lt_of_cell? _ _ (hrow 0 _ hHq.id)
      clear hcs hq hv hcl
      obtain ⟨d, hd⟩ : ∃ d, wantsB q p = d := ⟨_, rfl⟩
      have HD := Lib.hid hd
      obtain ⟨f, hf⟩ : ∃ f, (q.stage == 1) = f := ⟨_, rfl⟩
      have HF := Lib.hid hf
      obtain ⟨sg, hsg⟩ : ∃ sg, q.stage = sg := ⟨_, rfl⟩
      rw [hsg] at hf HI
      have HSG := Lib.hid hsg
      clear hd hsg
      go_wp2_with (first
        | refine wpList_load_g (by rfl) 80 (.tmp 19) (by rfl) b (off + k * 23) (by rfl) cs _ hrow Tryz.underlying80 rfl szS ?_
        | fail)
      refine (refWants_c cs q p d _ HD.out.symm hHq s1).mono ?_
      rintro e W4 ⟨b4, z, rfl⟩
      replace V := V.later b4
      have hrow' := range_below hrow b4 blt
      have y1 := cell_list V.kb HH.out
      have z6 := hrow' 6 _ HI.out
      clear b4 hrow hrow' hHq
      cases d
      · clear z6 hf
        go_wp2
        go_roundw
        case rel => exact ⟨k + 1, by omega, by go_num, V, Lib.hid (by rw [any_takeP _ hs k q HC.out, HKK.out, HD.out]; rfl)⟩
        case measure => simp [intOf]; omega
      · cases f
        · go_wp2
          go_ret
          refine ⟨?_, V.bel⟩
          rw [HR.out, lockedM, List.any_eq_true.2 ⟨q, List.mem_of_getElem? HC.out, by rw [HD.out, bne, HF.out]; rfl⟩]; rfl
        · go_wp2
          go_roundw
          case rel => exact ⟨k + 1, by omega, by go_num, V, Lib.hid (by rw [any_takeP _ hs k q HC.out, HKK.out, HD.out, bne, HF.out]; rfl)⟩
          case measure => simp [intOf]; omega
    · obtain rfl : k = n := by omega
      have i2 : decide (k < k) = false := decide_eq_false (by omega)
      have hcl : css.length = k := HN.out
      have hhl := V.k.hs.len
      have e := HKK.out
      rw [List.take_of_length_le (by omega)] at e
      have HE := Lib.hid e
      clear e hhl hcl
      go_wp2
      go_ret
      refine ⟨?_, V.bel⟩
      rw [HR.out, lockedM, HE.out]; rfl
end Go.Proofs.YtbeijbhgpddbmaaGreat
namespace Go.Proofs.YtbeijbhgpddbmaaGreat
open Go.RowKit Rf Mem Bv AM SM
attribute [local go_sem ↓] run_max2 run_min2
/-- a layout and an image in variables of one's own -/
structure LM2 (w W : World) (L M : List Value) : Prop where
  bel : Below w.heap.size w W
  v : V2 W w.heap.size (w.heap.size + 1) L M
theorem LM2.later {w W W' : World} {L M : List Value} (h : LM2 w W L M) (b : Below W.heap.size W W') : LM2 w W' L M := ⟨below_step h.bel b, h.v.later b⟩
set_option maxHeartbeats 2000000 in
set_option maxRecDepth 100000 in
theorem refOcc20_c (I : IM) (L M : List Value) (v : Value) (l : List T3) (r : Bool) (w : World) (hr : r = l.any fun s => I.occB s.1) (h : IMF I L M) (ht : TAt w v l) (hl : l.length ≤ 5864062014700) :
    Calls Tryz.prog 104 #[.agg L.toArray, .agg M.toArray, v] w fun e w' => e = .returned (.bool r) ∧ Below w.heap.size w w' := by
  have szL := lay_size h.l.len
  have szM := img_size h.m.len
  have b0 := below_step (below_new w (.cells L.toArray 29)) (below_new (w.alloc (.cells L.toArray 29)) (.cells M.toArray 35))
  have V : LM2 w ((w.alloc (.cells L.toArray 29)).alloc (.cells M.toArray 35)) L M := ⟨b0, old_at (new_at rfl _) _, new_at (by simp) _⟩
  have HR := Lib.hid hr
  have HF := Lib.hid h
  obtain ⟨A, c, rfl⟩ := ht.form
  have HT := Lib.hid ht
  clear hr h ht b0
  go_enter Tryz.func104, Tryz.ntmps104
  go_upto_region 1 with (fail)
  generalize (w.alloc (.cells L.toArray 29)).alloc (.cells M.toArray 35) = W0 at *
  go_wp2
  go_loopw [7] (fun i wr => ∃ k : Nat, k ≤ l.length ∧ i = .int .i64 k ∧ LM2 w wr L M ∧ Hid ((l.take k).any (fun s => I.occB s.1) = false)) (fun i _ => l.length - (intOf i).toNat)
  case atStart => exact ⟨0, Nat.zero_le _, rfl, V, Lib.hid rfl⟩
  case round =>
    clear V
    obtain ⟨k, hk, rfl, V, HKK⟩ := hrel
    by_cases hlt : k < l.length
    · have i1 : (k : Int) < (l.length : Int) := by omega
      have i2 : decide (k < l.length) = true := decide_eq_true hlt
      obtain ⟨x, hx⟩ : ∃ x, l[k]? = some x := ⟨_, List.getElem?_eq_getElem hlt⟩
      have HTW := HT.out.later V.bel
      obtain ⟨b, off, cc, hv, x0, x1, x2⟩ := t3_cells HTW hx
      obtain ⟨rfl, _, rfl⟩ := Value.slice.inj hv
      have HX := Lib.hid hx
      obtain ⟨a1, p1, c1⟩ := x
      simp only at x0 x1 x2
      clear hx hv x1 x2 HTW
      obtain ⟨d, hd⟩ : ∃ d, I.occB a1 = d := ⟨_, rfl⟩
      have HD := Lib.hid hd
      clear hd
      go_upto_region 4 with (fail)
      refine wp_region_held_drew (S := (fun w' => w'.rangeAt w.heap.size 0 L ∧ w'.rangeAt (w.heap.size + 1) 0 M ∧ w'.cell? ⟨b, off + k * 3, none⟩ = some (.int .i64 a1))) (by kernel_rfl) ?_ (fun hHeld => ?_)
      · exact ⟨range_of V.v.l, range_of V.v.m, x0⟩
      have bd : Below wr.heap.size wr wr.drew := (Below.refl _ wr).drew
      replace V := V.later bd
      clear x0 bd
      generalize wr.drew = X at *
      refine wpAnyH_take (i := 0) (v := .agg (L : List Value).toArray) rfl (by kernel_rfl) (by kernel_rfl) (by kernel_rfl) (fun _ _ _ h => h) (yieldsIf_load_mid (by kernel_rfl) 29 (.tmp 3) (by kernel_rfl) (w.heap.size) 0 (by kernel_rfl) L _ (fun w' h => h.1) (by first | exact Tryz.underlying29) rfl (by first | assumption | (simp only [*]; kernel_rfl))) (by assumption) ?_
      try simp only [List.getElem_toArray, List.getElem_cons_succ, List.getElem_cons_zero, Act.put, List.setIfInBounds_toArray, List.set_cons_zero, List.set_cons_succ]
      refine wpAnyH_take (i := 1) (v := .agg (M : List Value).toArray) rfl (by kernel_rfl) (by kernel_rfl) (by kernel_rfl) (fun _ _ _ h => h) (yieldsIf_load_mid (by kernel_rfl) 35 (.tmp 4) (by kernel_rfl) (w.heap.size + 1) 0 (by kernel_rfl) M _ (fun w' h => h.2.1) (by first | exact Tryz.underlying35) rfl (by first | assumption | (simp only [*]; kernel_rfl))) (by assumption) ?_
      try simp only [List.getElem_toArray, List.getElem_cons_succ, List.getElem_cons_zero, Act.put, List.setIfInBounds_toArray, List.set_cons_zero, List.set_cons_succ]
      refine wpAnyH_take (i := 2) (v := ?_) rfl (by kernel_rfl) (by kernel_rfl) (by kernel_rfl) (fun _ _ _ h => h) (Or.inl ⟨by kernel_rfl, ?_⟩) (by assumption) ?_
      rotate_left
      · intro w hSw
        try dsimp only at hSw
        go_simp
        try with_reducible rfl
      simp only [List.getElem_toArray, List.getElem_cons_succ, List.getElem_cons_zero, Act.put, List.setIfInBounds_toArray, List.set_cons_zero, List.set_cons_succ]
      refine wpAnyH_take (i := 3) (v := ?_) rfl (by kernel_rfl) (by kernel_rfl) (by kernel_rfl) (fun _ _ _ h => h) (Or.inl ⟨by kernel_rfl, ?_⟩) (by assumption) ?_
      rotate_left
      · intro w hSw
        try dsimp only at hSw
        go_simp
        try with_reducible rfl
      simp only [List.getElem_toArray, List.getElem_cons_succ, List.getElem_cons_zero, Act.put, List.setIfInBounds_toArray, List.set_cons_zero, List.set_cons_succ]
      refine wpAnyH_take (i := 4) (v := ?_) rfl (by kernel_rfl) (by kernel_rfl) (by kernel_rfl) (fun _ _ _ h => h) (Or.inl ⟨by kernel_rfl, ?_⟩) (by assumption) ?_
      rotate_left
      · intro w hSw
        try dsimp only at hSw
        go_simp
        try with_reducible rfl
      simp only [List.getElem_toArray, List.getElem_cons_succ, List.getElem_cons_zero, Act.put, List.setIfInBounds_toArray, List.set_cons_zero, List.set_cons_succ]
      refine wpAnyH_take (i := 5) (v := ?_) rfl (by kernel_rfl) (by kernel_rfl) (by kernel_rfl) (fun _ _ _ h => h) (Or.inl ⟨by kernel_rfl, ?_⟩) (by assumption) ?_
      rotate_left
      · intro w hSw
        try dsimp only at hSw
        go_simp
        try with_reducible rfl
      simp only [List.getElem_toArray, List.getElem_cons_succ, List.getElem_cons_zero, Act.put, List.setIfInBounds_toArray, List.set_cons_zero, List.set_cons_succ]
      refine wpAnyH_take (i := 6) (v := ?_) rfl (by kernel_rfl) (by kernel_rfl) (by kernel_rfl) (fun _ _ _ h => h) (Or.inl ⟨by kernel_rfl, ?_⟩) (by assumption) ?_
      rotate_left
      · intro w hSw
        try dsimp only at hSw
        go_simp
        try with_reducible rfl
      simp only [List.getElem_toArray, List.getElem_cons_succ, List.getElem_cons_zero, Act.put, List.setIfInBounds_toArray, List.set_cons_zero, List.set_cons_succ]
      have hx0 := hHeld.2.2
      clear hHeld
      refine wpAnyH_ready (rs := [7]) (by kernel_rfl) (by simp) ?_
      refine AllReadyH.cons rfl (fun K hK => ?_) AllReadyH.nil
      go_simp
      refine (rocc_c I L M a1 d _ HD.out.symm HF.out).mono ?_
      rintro e X' ⟨rfl, bF⟩
      have hx1 : X'.cell? ⟨b, off + k * 3, none⟩ = some (.int .i64 a1) := cell_later hx0 bF
      replace V := V.later bF
      clear bF hx0
      refine hK.out _ _ ⟨range_of V.v.l, range_of V.v.m, hx1⟩ (fun _ => ?_)
      clear hK K hx1
      try simp only [List.getElem_toArray, List.getElem_cons_succ, List.getElem_cons_zero, Act.put, List.setIfInBounds_toArray, List.set_cons_zero, List.set_cons_succ]
      refine wpAnyH_done (by kernel_rfl) ?_ _
      cases d
      · go_wp2
        go_roundw
        case rel => exact ⟨k + 1, by omega, by go_num, V, Lib.hid (by rw [any_takeP _ l k _ HX.out, HKK.out]; exact HD.out)⟩
        case measure => simp [intOf]; omega
      · go_wp2
        go_ret
        refine ⟨?_, V.bel⟩
        rw [HR.out, List.any_eq_true.2 ⟨_, List.mem_of_getElem? HX.out, HD.out⟩]; rfl
    · obtain rfl : k = l.length := by omega
      have i2 : decide (l.length < l.length) = false := decide_eq_false (by omega)
      go_wp2
      go_ret
      refine ⟨?_, V.bel⟩
      have e := HKK.out
      rw [List.take_length] at e
      rw [HR.out, e]; rfl
structure LM3 (w W : World) (L M cs : List Value) (q : HeldM) : Prop where
  bel : Below w.heap.size w W
  v : V2 W w.heap.size (w.heap.size + 1) L M
  c : W.heap[w.heap.size + 1 + 1]? = some (.cells cs.toArray 80 (0, 0))
  q : HeldAt W cs q
theorem LM3.later {w W W' : World} {L M cs : List Value} {q : HeldM} (h : LM3 w W L M cs q) (b : Below W.heap.size W W') : LM3 w W' L M cs q := ⟨below_step h.bel b, h.v.later b, var_later h.c b, h.q.later b⟩
theorem LM3.new {w : World} {L M cs : List Value} {q : HeldM} (h : HeldAt w cs q) : LM3 w (((w.alloc (.cells L.toArray 29)).alloc (.cells M.toArray 35)).alloc (.cells cs.toArray 80)) L M cs q := by
  have b := below_step (below_step (below_new w (.cells L.toArray 29)) (below_new _ (.cells M.toArray 35))) (below_new _ (.cells cs.toArray 80))
  exact ⟨b, ⟨old_at (old_at (new_at rfl _) _) _, old_at (new_at (by simp) _) _⟩, new_at (by simp) _, h.later b⟩
theorem all_takeP {α : Type} (p : α → Bool) (l : List α) (k : Nat) (x : α) (h : l[k]? = some x) : (l.take (k + 1)).all p = ((l.take k).all p && p x) := by
  rw [List.take_add_one, h, List.all_append]; simp
set_option maxHeartbeats 2000000 in
set_option maxRecDepth 100000 in
theorem refProves20_c (I : IM) (L M cs : List Value) (q : HeldM) (r : Bool) (w : World) (hr : r = provesB I.stand q) (h : IMA I L M w) (hq : HeldAt w cs q) (hlen : q.needs.length ≤ 5864062014700) :
    Calls Tryz.prog 105 #[.agg L.toArray, .agg M.toArray, .agg cs.toArray] w fun e w' => e = .returned (.bool r) ∧ Below w.heap.size w w' := by
  have szL := lay_size h.f.l.len
  have szM := img_size h.f.m.len
  have szS := held_size hq.len
  have V := LM3.new (L := L) (M := M) hq
  have HR := Lib.hid hr
  have HA := Lib.hid h
  clear hr h hq
  go_enter Tryz.func105, Tryz.ntmps105
  go_upto_region 1 with (fail)
  generalize ((w.alloc (.cells L.toArray 29)).alloc (.cells M.toArray 35)).alloc (.cells cs.toArray 80) = W0 at *
  have RC := range_of V.c
  go_wp2_with (first
    | refine wpList_load_g (by rfl) 80 (.tmp 5) (by rfl) (w.heap.size + 1 + 1) 0 (by rfl) cs _ RC Tryz.underlying80 rfl szS ?_
    | fail)
  refine (refNeeds_c cs q _ V.q hlen).mono ?_
  rintro e W1 ⟨vn, rfl, b1, TN⟩
  replace V := V.later b1
  obtain ⟨l, hll⟩ : ∃ l, needsL q = l := ⟨_, rfl⟩
  have hln : l.length ≤ 5864062014700 := by rw [← hll]; exact Nat.le_trans (List.length_filter_le _ _) hlen
  rw [hll] at TN
  have HL := Lib.hid hll
  obtain ⟨An, cn, rfl⟩ := TN.form
  have HT := Lib.hid TN
  clear hll TN RC b1
  go_wp2
  go_loopw [8] (fun i wr => ∃ k : Nat, k ≤ l.length ∧ i = .int .i64 k ∧ LM3 w wr L M cs q ∧ Below W1.heap.size W1 wr ∧ Hid ((l.take k).all (fun n => I.stand n.1 == n.2.1) = true)) (fun i _ => l.length - (intOf i).toNat)
  case atStart => exact ⟨0, Nat.zero_le _, rfl, V, Below.refl _ _, Lib.hid rfl⟩
  case round =>
    clear V
    obtain ⟨k, hk, rfl, V, bW, HKK⟩ := hrel
    by_cases hlt : k < l.length
    · have i1 : (k : Int) < (l.length : Int) := by omega
      have i2 : decide (k < l.length) = true := decide_eq_true hlt
      obtain ⟨x, hx⟩ : ∃ x, l[k]? = some x := ⟨_, List.getElem?_eq_getElem hlt⟩
      have HTW := HT.out.later bW
      obtain ⟨b, off, cc, hv, x0, x1, x2⟩ := t3_cells HTW hx
      obtain ⟨rfl, _, rfl⟩ := Value.slice.inj hv
      have HX := Lib.hid hx
      obtain ⟨a1, p1, c1⟩ := x
      simp only at x0 x1 x2
      clear hx hv x2 HTW
      obtain ⟨z, hz⟩ : ∃ z, I.stand a1 = z := ⟨_, rfl⟩
      have HZ := Lib.hid hz
      clear hz
      obtain ⟨d, hd⟩ : ∃ d, (z == p1) = d := ⟨_, rfl⟩
      have HD := Lib.hid hd
      go_upto_region 5 with (fail)
      refine wp_region_held_drew (S := (fun w' => w'.rangeAt w.heap.size 0 L ∧ w'.rangeAt (w.heap.size + 1) 0 M ∧ w'.cell? ⟨b, off + k * 3, none⟩ = some (.int .i64 a1) ∧ w'.cell? ⟨b, off + k * 3 + 1, none⟩ = some (.int .i64 p1))) (by kernel_rfl) ?_ (fun hHeld => ?_)
      · exact ⟨range_of V.v.l, range_of V.v.m, x0, x1⟩
      have bd : Below wr.heap.size wr wr.drew := (Below.refl _ wr).drew
      replace V := V.later bd
      replace bW := below_step bW bd
      clear x0 x1 bd
      generalize wr.drew = X at *
      refine wpAnyH_take (i := 0) (v := .agg (L : List Value).toArray) rfl (by kernel_rfl) (by kernel_rfl) (by kernel_rfl) (fun _ _ _ h => h) (yieldsIf_load_mid (by kernel_rfl) 29 (.tmp 3) (by kernel_rfl) (w.heap.size) 0 (by kernel_rfl) L _ (fun w' h => h.1) (by first | exact Tryz.underlying29) rfl (by first | assumption | (simp only [*]; kernel_rfl))) (by assumption) ?_
      try simp only [List.getElem_toArray, List.getElem_cons_succ, List.getElem_cons_zero, Act.put, List.setIfInBounds_toArray, List.set_cons_zero, List.set_cons_succ]
      refine wpAnyH_take (i := 1) (v := .agg (M : List Value).toArray) rfl (by kernel_rfl) (by kernel_rfl) (by kernel_rfl) (fun _ _ _ h => h) (yieldsIf_load_mid (by kernel_rfl) 35 (.tmp 4) (by kernel_rfl) (w.heap.size + 1) 0 (by kernel_rfl) M _ (fun w' h => h.2.1) (by first | exact Tryz.underlying35) rfl (by first | assumption | (simp only [*]; kernel_rfl))) (by assumption) ?_
      try simp only [List.getElem_toArray, List.getElem_cons_succ, List.getElem_cons_zero, Act.put, List.setIfInBounds_toArray, List.set_cons_zero, List.set_cons_succ]
      refine wpAnyH_take (i := 2) (v := ?_) rfl (by kernel_rfl) (by kernel_rfl) (by kernel_rfl) (fun _ _ _ h => h) (Or.inl ⟨by kernel_rfl, ?_⟩) (by assumption) ?_
      rotate_left
      · intro w hSw
        try dsimp only at hSw
        go_simp
        try with_reducible rfl
      simp only [List.getElem_toArray, List.getElem_cons_succ, List.getElem_cons_zero, Act.put, List.setIfInBounds_toArray, List.set_cons_zero, List.set_cons_succ]
      refine wpAnyH_take (i := 3) (v := ?_) rfl (by kernel_rfl) (by kernel_rfl) (by kernel_rfl) (fun _ _ _ h => h) (Or.inl ⟨by kernel_rfl, ?_⟩) (by assumption) ?_
      rotate_left
      · intro w hSw
        try dsimp only at hSw
        go_simp
        try with_reducible rfl
      simp only [List.getElem_toArray, List.getElem_cons_succ, List.getElem_cons_zero, Act.put, List.setIfInBounds_toArray, List.set_cons_zero, List.set_cons_succ]
      refine wpAnyH_take (i := 4) (v := ?_) rfl (by kernel_rfl) (by kernel_rfl) (by kernel_rfl) (fun _ _ _ h => h) (Or.inl ⟨by kernel_rfl, ?_⟩) (by assumption) ?_
      rotate_left
      · intro w hSw
        try dsimp only at hSw
        go_simp
        try with_reducible rfl
      simp only [List.getElem_toArray, List.getElem_cons_succ, List.getElem_cons_zero, Act.put, List.setIfInBounds_toArray, List.set_cons_zero, List.set_cons_succ]
      refine wpAnyH_take (i := 5) (v := ?_) rfl (by kernel_rfl) (by kernel_rfl) (by kernel_rfl) (fun _ _ _ h => h) (Or.inl ⟨by kernel_rfl, ?_⟩) (by assumption) ?_
      rotate_left
      · intro w hSw
        try dsimp only at hSw
        go_simp
        try with_reducible rfl
      simp only [List.getElem_toArray, List.getElem_cons_succ, List.getElem_cons_zero, Act.put, List.setIfInBounds_toArray, List.set_cons_zero, List.set_cons_succ]
      refine wpAnyH_take (i := 6) (v := ?_) rfl (by kernel_rfl) (by kernel_rfl) (by kernel_rfl) (fun _ _ _ h => h) (Or.inl ⟨by kernel_rfl, ?_⟩) (by assumption) ?_
      rotate_left
      · intro w hSw
        try dsimp only at hSw
        go_simp
        try with_reducible rfl
      simp only [List.getElem_toArray, List.getElem_cons_succ, List.getElem_cons_zero, Act.put, List.setIfInBounds_toArray, List.set_cons_zero, List.set_cons_succ]
      refine wpAnyH_take (i := 8) (v := ?_) rfl (by kernel_rfl) (by kernel_rfl) (by kernel_rfl) (fun _ _ _ h => h) (Or.inl ⟨by kernel_rfl, ?_⟩) (by assumption) ?_
      rotate_left
      · intro w hSw
        try dsimp only at hSw
        go_simp
        try with_reducible rfl
      simp only [List.getElem_toArray, List.getElem_cons_succ, List.getElem_cons_zero, Act.put, List.setIfInBounds_toArray, List.set_cons_zero, List.set_cons_succ]
      refine wpAnyH_take (i := 9) (v := ?_) rfl (by kernel_rfl) (by kernel_rfl) (by kernel_rfl) (fun _ _ _ h => h) (Or.inl ⟨by kernel_rfl, ?_⟩) (by assumption) ?_
      rotate_left
      · intro w hSw
        try dsimp only at hSw
        go_simp
        try with_reducible rfl
      simp only [List.getElem_toArray, List.getElem_cons_succ, List.getElem_cons_zero, Act.put, List.setIfInBounds_toArray, List.set_cons_zero, List.set_cons_succ]
      refine wpAnyH_take (i := 10) (v := ?_) rfl (by kernel_rfl) (by kernel_rfl) (by kernel_rfl) (fun _ _ _ h => h) (Or.inl ⟨by kernel_rfl, ?_⟩) (by assumption) ?_
      rotate_left
      · intro w hSw
        try dsimp only at hSw
        go_simp
        try with_reducible rfl
      simp only [List.getElem_toArray, List.getElem_cons_succ, List.getElem_cons_zero, Act.put, List.setIfInBounds_toArray, List.set_cons_zero, List.set_cons_succ]
      refine wpAnyH_take (i := 11) (v := ?_) rfl (by kernel_rfl) (by kernel_rfl) (by kernel_rfl) (fun _ _ _ h => h) (Or.inl ⟨by kernel_rfl, ?_⟩) (by assumption) ?_
      rotate_left
      · intro w hSw
        try dsimp only at hSw
        go_simp
        try with_reducible rfl
      simp only [List.getElem_toArray, List.getElem_cons_succ, List.getElem_cons_zero, Act.put, List.setIfInBounds_toArray, List.set_cons_zero, List.set_cons_succ]
      refine wpAnyH_take (i := 12) (v := ?_) rfl (by kernel_rfl) (by kernel_rfl) (by kernel_rfl) (fun _ _ _ h => h) (Or.inl ⟨by kernel_rfl, ?_⟩) (by assumption) ?_
      rotate_left
      · intro w hSw
        try dsimp only at hSw
        go_simp
        try with_reducible rfl
      simp only [List.getElem_toArray, List.getElem_cons_succ, List.getElem_cons_zero, Act.put, List.setIfInBounds_toArray, List.set_cons_zero, List.set_cons_succ]
      have hx0 := hHeld.2.2
      clear hHeld
      refine wpAnyH_ready (rs := [7]) (by kernel_rfl) (by simp) ?_
      refine AllReadyH.cons rfl (fun K hK => ?_) AllReadyH.nil
      go_simp
      refine (rstand_c I L M a1 z _ HZ.out.symm (HA.out.later V.bel)).mono ?_
      rintro e X' ⟨rfl, bF⟩
      have hy0 : X'.cell? ⟨b, off + k * 3, none⟩ = some (.int .i64 a1) := cell_later hx0.1 bF
      have hy1 : X'.cell? ⟨b, off + k * 3 + 1, none⟩ = some (.int .i64 p1) := cell_later hx0.2 bF
      replace V := V.later bF
      replace bW := below_step bW bF
      clear bF hx0
      refine hK.out _ _ ⟨range_of V.v.l, range_of V.v.m, hy0, hy1⟩ (fun hHeld => ?_)
      clear hK K hy0 hy1
      try simp only [List.getElem_toArray, List.getElem_cons_succ, List.getElem_cons_zero, Act.put, List.setIfInBounds_toArray, List.set_cons_zero, List.set_cons_succ]
      refine wpAnyH_take (i := 13) (v := ?_) rfl (by kernel_rfl) (by kernel_rfl) (by kernel_rfl) (fun _ _ _ h => h) (Or.inl ⟨by kernel_rfl, ?_⟩) (by assumption) ?_
      rotate_left
      · intro w hSw
        try dsimp only at hSw
        go_simp
        try with_reducible rfl
      simp only [List.getElem_toArray, List.getElem_cons_succ, List.getElem_cons_zero, Act.put, List.setIfInBounds_toArray, List.set_cons_zero, List.set_cons_succ]
      clear hHeld
      refine wpAnyH_done (by kernel_rfl) ?_ _
      cases d
      · go_wp2
        go_ret
        refine ⟨?_, V.bel⟩
        rw [HR.out, provesB, HL.out]
        cases hall : l.all fun n => I.stand n.1 == n.2.1
        · rfl
        · have := List.all_eq_true.1 hall _ (List.mem_of_getElem? HX.out)
          rw [HZ.out, HD.out] at this
          cases this
      · go_wp2
        go_roundw
        case rel => exact ⟨k + 1, by omega, by go_num, V, bW, Lib.hid (by rw [all_takeP _ l k _ HX.out, HKK.out, HZ.out, HD.out]; rfl)⟩
        case measure => simp [intOf]; omega
    · obtain rfl : k = l.length := by omega
      have i2 : decide (l.length < l.length) = false := decide_eq_false (by omega)
      go_wp2
      go_ret
      refine ⟨?_, V.bel⟩
      have e := HKK.out
      rw [List.take_length] at e
      rw [HR.out, provesB, HL.out, e]; rfl
theorem clear20_is {st : Int → Int} {occ lit : Int → Bool} (q : HeldM) : clearB st occ lit q = (q.stage == 2 && (!(q.steps.any fun s => occ s.1) && (!(q.over.any fun s => occ s.1) && (provesB st q && lit q.sig)))) := by
  have e : ∀ l : List T3, (l.all fun s => !occ s.1) = !(l.any fun s => occ s.1) := fun l => by induction l with
    | nil => rfl
    | cons a r ih => simp [ih]
  unfold clearB
  rw [e, e]
  cases q.stage == 2 <;> cases lit q.sig <;> cases (q.steps.any fun s => occ s.1) <;> cases (q.over.any fun s => occ s.1) <;> cases provesB st q <;> rfl
set_option maxHeartbeats 2000000 in
set_option maxRecDepth 100000 in
theorem refClear20_c (I : IM) (L M cs : List Value) (q : HeldM) (r : Bool) (w : World) (hr : r = clearB I.stand I.occB I.litB q) (h : IMA I L M w) (hq : HeldAt w cs q) (hlen : q.needs.length ≤ 5864062014700) (hl1 : q.steps.length ≤ 5864062014700) (hl2 : q.over.length ≤ 5864062014700) :
    Calls Tryz.prog 75 #[.agg L.toArray, .agg M.toArray, .agg cs.toArray] w fun e w' => e = .returned (.bool r) ∧ Below w.heap.size w w' := by
  have szL := lay_size h.f.l.len
  have szM := img_size h.f.m.len
  have szS := held_size hq.len
  have V := LM3.new (L := L) (M := M) hq
  rw [clear20_is] at hr
  obtain ⟨v3, e3, t3⟩ := hq.st
  obtain ⟨v4, e4, t4⟩ := hq.ov
  have HT := Lib.hid (And.intro t3 t4)
  have HE3 := Lib.hid e3
  have HE4 := Lib.hid e4
  have HE1 := Lib.hid hq.sig
  have HE6 := Lib.hid hq.stage
  have HA := Lib.hid h
  obtain ⟨f1, hf1⟩ : ∃ f, (q.stage == 2) = f := ⟨_, rfl⟩
  obtain ⟨f2, hf2⟩ : ∃ f, (q.steps.any fun s => I.occB s.1) = f := ⟨_, rfl⟩
  obtain ⟨f3, hf3⟩ : ∃ f, (q.over.any fun s => I.occB s.1) = f := ⟨_, rfl⟩
  obtain ⟨f4, hf4⟩ : ∃ f, provesB I.stand q = f := ⟨_, rfl⟩
  obtain ⟨f5, hf5⟩ : ∃ f, I.litB q.sig = f := ⟨_, rfl⟩
  rw [hf1, hf2, hf3, hf4, hf5] at hr
  have HR := Lib.hid hr
  have HF2 := Lib.hid hf2
  have HF3 := Lib.hid hf3
  have HF4 := Lib.hid hf4
  have HF5 := Lib.hid hf5
  obtain ⟨sg, hsg⟩ : ∃ sg, q.stage = sg := ⟨_, rfl⟩
  rw [hsg] at hf1 HE6
  obtain ⟨si, hsi⟩ : ∃ si, q.sig = si := ⟨_, rfl⟩
  rw [hsi] at HE1 HF5
  clear hr hf2 hf3 hf4 hf5 hsg hsi h hq e3 e4 t3 t4
  go_enter Tryz.func75, Tryz.ntmps75
  go_upto_region 1 with (fail)
  generalize ((w.alloc (.cells L.toArray 29)).alloc (.cells M.toArray 35)).alloc (.cells cs.toArray 80) = W0 at *
  have RL := range_of V.v.l
  have RM := range_of V.v.m
  have x6 := cell_list V.c HE6.out
  have x3 := cell_list V.c HE3.out
  cases f1
  · go_wp2
    go_ret
    exact ⟨by rw [HR.out]; rfl, V.bel⟩
  go_wp2_with (first
    | refine wpList_load_g (by rfl) 29 (.tmp 3) (by rfl) w.heap.size 0 (by rfl) L _ RL Tryz.underlying29 rfl szL ?_
    | refine wpList_load_g (by rfl) 35 (.tmp 4) (by rfl) (w.heap.size + 1) 0 (by rfl) M _ RM Tryz.underlying35 rfl szM ?_
    | fail)
  refine (refOcc20_c I L M v3 q.steps f2 _ HF2.out.symm HA.out.f (HT.out.1.later V.bel) hl1).mono ?_
  rintro e W1 ⟨rfl, b1⟩
  replace V := V.later b1
  clear RL RM x6 x3 b1
  have RL := range_of V.v.l
  have RM := range_of V.v.m
  have x4 := cell_list V.c HE4.out
  cases f2
  rotate_left
  · go_wp2
    go_ret
    exact ⟨by rw [HR.out]; rfl, V.bel⟩
  go_wp2_with (first
    | refine wpList_load_g (by rfl) 29 (.tmp 3) (by rfl) w.heap.size 0 (by rfl) L _ RL Tryz.underlying29 rfl szL ?_
    | refine wpList_load_g (by rfl) 35 (.tmp 4) (by rfl) (w.heap.size + 1) 0 (by rfl) M _ RM Tryz.underlying35 rfl szM ?_
    | fail)
  refine (refOcc20_c I L M v4 q.over f3 _ HF3.out.symm HA.out.f (HT.out.2.later V.bel) hl2).mono ?_
  rintro e W2 ⟨rfl, b1⟩
  replace V := V.later b1
  clear RL RM x4 b1
  have RL := range_of V.v.l
  have RM := range_of V.v.m
  have RC := range_of V.c
  cases f3
  rotate_left
  · go_wp2
    go_ret
    exact ⟨by rw [HR.out]; rfl, V.bel⟩
  go_wp2_with (first
    | refine wpList_load_g (by rfl) 29 (.tmp 3) (by rfl) w.heap.size 0 (by rfl) L _ RL Tryz.underlying29 rfl szL ?_
    | refine wpList_load_g (by rfl) 35 (.tmp 4) (by rfl) (w.heap.size + 1) 0 (by rfl) M _ RM Tryz.underlying35 rfl szM ?_
    | refine wpList_load_g (by rfl) 80 (.tmp 5) (by rfl) (w.heap.size + 1 + 1) 0 (by rfl) cs _ RC Tryz.underlying80 rfl szS ?_
    | fail)
  refine (refProves20_c I L M cs q f4 _ HF4.out.symm (HA.out.later V.bel) V.q hlen).mono ?_
  rintro e W3 ⟨rfl, b1⟩
  replace V := V.later b1
  clear RL RM RC b1
  have RL := range_of V.v.l
  have RM := range_of V.v.m
  have x1 := cell_list V.c HE1.out
  cases f4
  · go_wp2
    go_ret
    exact ⟨by rw [HR.out]; rfl, V.bel⟩
  go_wp2_with (first
    | refine wpList_load_g (by rfl) 29 (.tmp 3) (by rfl) w.heap.size 0 (by rfl) L _ RL Tryz.underlying29 rfl szL ?_
    | refine wpList_load_g (by rfl) 35 (.tmp 4) (by rfl) (w.heap.size + 1) 0 (by rfl) M _ RM Tryz.underlying35 rfl szM ?_
    | fail)
  refine (rlit_c I L M si f5 _ HF5.out.symm HA.out.f).mono ?_
  rintro e W4 ⟨rfl, b1⟩
  replace V := V.later b1
  clear RL RM x1 b1
  go_wp2
  go_ret
  exact ⟨by rw [HR.out]; cases f5 <;> rfl, V.bel⟩
end Go.Proofs.YtbeijbhgpddbmaaGreat
namespace Go.Proofs.YtbeijbhgpddbmaaGreat
open Go.RowKit Rf Mem Bv AM SM
attribute [local go_sem ↓] run_max2 run_min2
theorem bit28_c (x : BitVec 32) (k : Nat) (b : Bool) (w : World) (hk : k < 32) (hb : b = x.getLsbD k) :
    Calls Tryz.prog 18 #[.int .u32 x.toNat, .int .i64 k] w fun e w' => e = .returned (.bool b) ∧ w' = w := by
  have q1 : decide (0 ≤ (k : Int)) = true := decide_eq_true (by omega)
  have q2 : decide ((k : Int) < 32) = true := decide_eq_true (by omega)
  have i2 : (k : Int) < 32 := by omega
  have hl := low32 x k
  rw [← hb] at hl
  clear hb
  generalize (x.toNat : Int) = xi at *
  go_enter Tryz.func18, Tryz.ntmps18
  go_wp2
  go_ret
  exact ⟨rfl, rfl⟩
/-- what section and signal look at -/
structure SV (w W : World) (I : IM) (L M K : List Value) (ss : List (List Value)) (vh : Value) (css : List (List Value)) (hs : List HeldM) (nx : Int) (ms : List (Int × Int × Bool)) (S : List Value) : Prop where
  bel : Below w.heap.size w W
  v : V2 W w.heap.size (w.heap.size + 1) L M
  kb : W.heap[w.heap.size + 1 + 1]? = some (.cells K.toArray 41 (0, 0))
  sb : W.heap[w.heap.size + 1 + 1 + 1]? = some (.cells S.toArray 52 (0, 0))
  ly : LY W L I.kinds ss I.nsig I.clr I.st I.A I.c I.A1 I.c1
  a : IMA I L M W
  k : KerAt W K vh css hs nx ms
theorem SV.later {w W W' : World} {I : IM} {L M K : List Value} {ss : List (List Value)} {vh : Value} {css : List (List Value)} {hs : List HeldM} {nx : Int} {ms : List (Int × Int × Bool)} {S : List Value} (h : SV w W I L M K ss vh css hs nx ms S) (b : Below W.heap.size W W') : SV w W' I L M K ss vh css hs nx ms S :=
  ⟨below_step h.bel b, h.v.later b, var_later h.kb b, var_later h.sb b, h.ly.later b, h.a.later b, h.k.later b⟩
/-- a show that tells a section as it is -/
structure SecTold (I : IM) (hs : List HeldM) (o : ShowM) (i : Nat) : Prop where
  clear : o.clear.getLsbD i = !I.occB i
  held : o.held.getLsbD i = (holderM hs i).isSome
  normal : o.normal.getLsbD i = (pointB I.kinds i && I.stand i == 0)
  reverse : o.reverse.getLsbD i = (pointB I.kinds i && I.stand i == 1)
  locked : o.locked.getLsbD i = (pointB I.kinds i && lockedM hs i)
set_option maxHeartbeats 8000000 in
set_option maxRecDepth 100000 in
theorem section28_c (I : IM) (L M K : List Value) (ss : List (List Value)) (vh : Value) (css : List (List Value)) (hs : List HeldM) (nx : Int) (ms : List (Int × Int × Bool)) (o : ShowM) (i : Nat) (w : World) (hi : i < min I.kinds.length 24) (ht : SecTold I hs o i)
    (hY : LY w L I.kinds ss I.nsig I.clr I.st I.A I.c I.A1 I.c1) (hA : IMA I L M w) (hK : KerAt w K vh css hs nx ms) (hlen : hs.length ≤ 5864062014700) (hsm : Few hs) :
    Calls Tryz.prog 17 #[.agg L.toArray, .agg M.toArray, .agg K.toArray, .agg (showL o).toArray, .int .i64 i] w fun e w' => e = .returned (.bool true) ∧ Below w.heap.size w w' := by
  have szL := lay_size hA.f.l.len
  have szM := img_size hA.f.m.len
  have szK := ker_size hK.len
  obtain ⟨S, hS⟩ : ∃ S, showL o = S := ⟨_, rfl⟩
  rw [hS]
  obtain ⟨W0, hW0⟩ : ∃ W0, (((w.alloc (.cells L.toArray 29)).alloc (.cells M.toArray 35)).alloc (.cells K.toArray 41)).alloc (.cells S.toArray 52) = W0 := ⟨_, rfl⟩
  have B0 : Below w.heap.size w W0 := by rw [← hW0]; exact below_step (below_step (below_step (below_new _ _) (below_new _ _)) (below_new _ _)) (below_new _ _)
  have V : SV w W0 I L M K ss vh css hs nx ms S := ⟨B0, by rw [← hW0]; exact ⟨old_at (old_at (old_at (new_at rfl _) _) _) _, old_at (old_at (new_at (by simp) _) _) _⟩, by rw [← hW0]; exact old_at (new_at (by simp) _) _, by rw [← hW0]; exact new_at (by simp) _, hY.later B0, hA.later B0, hK.later B0⟩
  have HS0 := Lib.hid (show S[0]? = some (.int .u32 o.clear.toNat) by rw [← hS]; rfl)
  have HS1 := Lib.hid (show S[1]? = some (.int .u32 o.held.toNat) by rw [← hS]; rfl)
  have HS2 := Lib.hid (show S[2]? = some (.int .u32 o.normal.toNat) by rw [← hS]; rfl)
  have HS3 := Lib.hid (show S[3]? = some (.int .u32 o.reverse.toNat) by rw [← hS]; rfl)
  have HS4 := Lib.hid (show S[4]? = some (.int .u32 o.locked.toNat) by rw [← hS]; rfl)
  have HSM := Lib.hid hsm
  have hi32 : i < 32 := by omega
  obtain ⟨hb, hhb⟩ : ∃ b, (holderM hs i).isSome = b := ⟨_, rfl⟩
  obtain ⟨oc, hoc⟩ : ∃ b, I.occB i = b := ⟨_, rfl⟩
  obtain ⟨pb, hpb⟩ : ∃ b, pointB I.kinds i = b := ⟨_, rfl⟩
  obtain ⟨sd, hsd⟩ : ∃ b, I.stand i = b := ⟨_, rfl⟩
  obtain ⟨lk, hlk⟩ : ∃ b, lockedM hs i = b := ⟨_, rfl⟩
  have t0 := ht.clear
  have t1 := ht.held
  have t2 := ht.normal
  have t3 := ht.reverse
  have t4 := ht.locked
  rw [hoc] at t0
  rw [hhb] at t1
  rw [hpb, hsd] at t2 t3
  rw [hpb, hlk] at t4
  have T0 := Lib.hid t0.symm
  have T1 := Lib.hid t1.symm
  have T2 := Lib.hid t2.symm
  have T3 := Lib.hid t3.symm
  have T4 := Lib.hid t4.symm
  have HHB := Lib.hid hhb
  have HOC := Lib.hid hoc
  have HSD := Lib.hid hsd
  have HLK := Lib.hid hlk
  have HI := Lib.hid hi
  have HPB := Lib.hid hpb
  clear t0 t1 t2 t3 t4 hhb hoc hsd hlk ht hS hY hA hK hsm B0 hi hpb
  go_enter Tryz.func17, Tryz.ntmps17
  go_upto_region 1 with (fail)
  generalize (((w.alloc (.cells L.toArray 29)).alloc (.cells M.toArray 35)).alloc (.cells K.toArray 41)).alloc (.cells S.toArray 52) = W0' at *
  subst hW0
  have RK := range_of V.kb
  go_wp2_with (first
    | refine wpList_load_k 41 (.tmp 7) (by rfl) (w.heap.size + 1 + 1) 0 (by rfl) K _ RK Tryz.underlying41 rfl szK (by kernel_rfl) ?_
    | fail)
  refine (refHolder_c K vh css hs nx ms i hb _ HHB.out.symm V.k hlen HSM.out).mono ?_
  rintro e W1 ⟨b1, z, rfl⟩
  replace V := V.later b1
  clear b1 RK
  go_upto_region 2 with (fail)
  go_cut [37] from 20 to 36 (fun x37 wx => x37 = .bool false ∧ Below W1.heap.size W1 wx)
  case first =>
    have x0 := cell_list V.sb HS0.out
    have x1 := cell_list V.sb HS1.out
    have RL := range_of V.v.l
    have RM := range_of V.v.m
    go_wp2_with fail
    refine (bit28_c o.clear i (!oc) _ hi32 T0.out).mono ?_
    rintro e W2 ⟨rfl, rfl⟩
    cases oc
    · go_wp2_with (first
        | refine wpList_load_k 29 (.tmp 5) (by rfl) w.heap.size 0 (by rfl) L _ RL Tryz.underlying29 rfl szL (by kernel_rfl) ?_
        | refine wpList_load_k 35 (.tmp 6) (by rfl) (w.heap.size + 1) 0 (by rfl) M _ RM Tryz.underlying35 rfl szM (by kernel_rfl) ?_
        | fail)
      refine (rocc_c I L M i false _ HOC.out.symm V.a.f).mono ?_
      rintro e W3 ⟨rfl, b3⟩
      replace V := V.later b3
      clear x0 x1 RL RM
      have x1 := cell_list V.sb HS1.out
      go_wp2_with fail
      refine (bit28_c o.held i hb _ hi32 T1.out).mono ?_
      rintro e W4 ⟨rfl, rfl⟩
      cases hb
      all_goals
        go_wp2
        go_meet
        exact ⟨rfl, b3⟩
    · go_wp2_with fail
      refine (bit28_c o.held i hb _ hi32 T1.out).mono ?_
      rintro e W4 ⟨rfl, rfl⟩
      cases hb
      all_goals
        go_wp2
        go_meet
        exact ⟨rfl, Below.refl _ _⟩
  case rest =>
    obtain ⟨rfl, bF⟩ := hcut
    replace V := V.later bF
    clear bF
    obtain ⟨zk, hzk⟩ : ∃ z, I.kinds[i]? = some z := ⟨_, List.getElem?_eq_getElem (by have := HI.out; omega)⟩
    have hzp : (zk == 2) = pb := by rw [← HPB.out, pointB, List.getD_eq_getElem?_getD, hzk]; rfl
    obtain ⟨A', c', hv, hc0, hc1, hsl⟩ := V.ly.sa
    have hkl : i < I.kinds.length := by have := HI.out; omega
    obtain ⟨bs, off, hA', hlb, hcell⟩ := hsl.resolve_left (by omega)
    have y0 := hcell i zk hzk
    have yA := cell_list V.v.l V.ly.f.sec
    obtain ⟨rfl, _, rfl⟩ := Value.slice.inj hv
    rw [hA'] at yA
    have ii : (i : Int) < (I.kinds.length : Int) := by omega
    clear hv hsl hcell hA' hzk
    have HZP := Lib.hid hzp
    go_upto_region 5 with (fail)
    clear y0 yA ii
    go_cut [76] from 45 to 75 (fun x76 wx => x76 = .bool false ∧ Below wc.heap.size wc wx)
    case first =>
      have x2 := cell_list V.sb HS2.out
      have x3 := cell_list V.sb HS3.out
      have RL := range_of V.v.l
      have RM := range_of V.v.m
      go_wp2_with fail
      refine (bit28_c o.normal i (pb && sd == 0) _ hi32 T2.out).mono ?_
      rintro e W2 ⟨rfl, rfl⟩
      cases pb
      · rw [Bool.false_and]
        go_wp2_with fail
        refine (bit28_c o.reverse i false _ hi32 T3.out).mono ?_
        rintro e W3 ⟨rfl, rfl⟩
        go_wp2
        go_meet
        exact ⟨rfl, Below.refl _ _⟩
      · rw [Bool.true_and]
        rw [Bool.true_and] at T3
        by_cases h0 : sd = 0
        · subst h0
          go_wp2_with (first
              | refine wpList_load_k 29 (.tmp 5) (by rfl) w.heap.size 0 (by rfl) L _ RL Tryz.underlying29 rfl szL (by kernel_rfl) ?_
              | refine wpList_load_k 35 (.tmp 6) (by rfl) (w.heap.size + 1) 0 (by rfl) M _ RM Tryz.underlying35 rfl szM (by kernel_rfl) ?_
              | fail)
          refine (rstand_c I L M i 0 _ HSD.out.symm V.a).mono ?_
          rintro e W3 ⟨rfl, b3⟩
          replace V := V.later b3
          clear x2 x3 RL RM
          have x3 := cell_list V.sb HS3.out
          go_wp2_with fail
          refine (bit28_c o.reverse i false _ hi32 T3.out).mono ?_
          rintro e W4 ⟨rfl, rfl⟩
          go_wp2
          go_meet
          exact ⟨rfl, b3⟩
        · have h0' : (sd == 0) = false := by simpa using h0
          rw [h0']
          clear h0 h0'
          go_wp2_with fail
          refine (bit28_c o.reverse i (sd == 1) _ hi32 T3.out).mono ?_
          rintro e W4 ⟨rfl, rfl⟩
          by_cases h1 : sd = 1
          · subst h1
            go_wp2_with (first
                | refine wpList_load_k 29 (.tmp 5) (by rfl) w.heap.size 0 (by rfl) L _ RL Tryz.underlying29 rfl szL (by kernel_rfl) ?_
                | refine wpList_load_k 35 (.tmp 6) (by rfl) (w.heap.size + 1) 0 (by rfl) M _ RM Tryz.underlying35 rfl szM (by kernel_rfl) ?_
                | fail)
            refine (rstand_c I L M i 1 _ HSD.out.symm V.a).mono ?_
            rintro e W3 ⟨rfl, b3⟩
            go_wp2
            go_meet
            exact ⟨rfl, b3⟩
          · have h1' : (sd == 1) = false := by simpa using h1
            rw [h1']
            clear h1 h1'
            go_wp2
            go_meet
            exact ⟨rfl, Below.refl _ _⟩
    case rest =>
      obtain ⟨rfl, bF⟩ := hcut
      replace V := V.later bF
      clear bF
      go_upto_region 7 with (fail)
      have x4 := cell_list V.sb HS4.out
      have RK := range_of V.kb
      go_wp2_with fail
      refine (bit28_c o.locked i (pb && lk) _ hi32 T4.out).mono ?_
      rintro e W2 ⟨rfl, rfl⟩
      cases pb
      · rw [Bool.false_and]
        go_wp2
        go_ret
        exact ⟨rfl, V.bel⟩
      · rw [Bool.true_and]
        cases lk
        all_goals
          go_wp2_with (first
            | refine wpList_load_k 41 (.tmp 7) (by rfl) (w.heap.size + 1 + 1) 0 (by rfl) K _ RK Tryz.underlying41 rfl szK (by kernel_rfl) ?_
            | fail)
          refine (refLocked_c K vh css hs nx ms i _ _ HLK.out.symm V.k hlen HSM.out).mono ?_
          rintro e W3 ⟨rfl, b3⟩
          have B := below_step V.bel b3
          go_wp2
          go_ret
          exact ⟨rfl, B⟩
end Go.Proofs.YtbeijbhgpddbmaaGreat
namespace Go.Proofs.YtbeijbhgpddbmaaGreat
open Go.RowKit Rf Mem Bv AM SM
attribute [local go_sem ↓] run_max2 run_min2
structure GV (w W : World) (I : IM) (L M K N : List Value) (vh : Value) (css : List (List Value)) (hs : List HeldM) (nx : Int) (ms : List (Int × Int × Bool)) (vr : Value) (rss : List (List Value)) (rq : List (Int × Nat)) (ds : Int) (dv : Nat) (au : BitVec 32) (code : Int) (S : List Value) : Prop where
  bel : Below w.heap.size w W
  v : V2 W w.heap.size (w.heap.size + 1) L M
  kb : W.heap[w.heap.size + 1 + 1]? = some (.cells K.toArray 41 (0, 0))
  nb : W.heap[w.heap.size + 1 + 1 + 1]? = some (.cells N.toArray 50 (0, 0))
  sb : W.heap[w.heap.size + 1 + 1 + 1 + 1]? = some (.cells S.toArray 52 (0, 0))
  a : IMA I L M W
  k : KerAt W K vh css hs nx ms
  n : NxAt W N vr rss rq ds dv au code
theorem GV.later {w W W' : World} {I : IM} {L M K N : List Value} {vh : Value} {css : List (List Value)} {hs : List HeldM} {nx : Int} {ms : List (Int × Int × Bool)} {vr : Value} {rss : List (List Value)} {rq : List (Int × Nat)} {ds : Int} {dv : Nat} {au : BitVec 32} {code : Int} {S : List Value} (h : GV w W I L M K N vh css hs nx ms vr rss rq ds dv au code S) (b : Below W.heap.size W W') : GV w W' I L M K N vh css hs nx ms vr rss rq ds dv au code S :=
  ⟨below_step h.bel b, h.v.later b, var_later h.kb b, var_later h.nb b, var_later h.sb b, h.a.later b, h.k.later b, h.n.later b⟩
/-- a show that tells a signal as it is -/
structure SigTold (I : IM) (hs : List HeldM) (rq : List (Int × Nat)) (ds : Int) (au : BitVec 32) (o : ShowM) (i : Nat) : Prop where
  off : o.off.getLsbD i = hs.any fun h => h.sig == (i : Int) && clearB I.stand I.occB I.litB h
  steady : o.steady.getLsbD i = hs.any fun h => h.sig == (i : Int)
  flash : o.flash.getLsbD i = ((ds == (i : Int) || rq.any fun r => r.1 == (i : Int)) && !(hs.any fun h => h.sig == (i : Int)))
  autos : o.autos.getLsbD i = au.getLsbD i
set_option maxHeartbeats 8000000 in
set_option maxRecDepth 100000 in
theorem signal28_c (I : IM) (L M K N : List Value) (vh : Value) (css : List (List Value)) (hs : List HeldM) (nx : Int) (ms : List (Int × Int × Bool)) (vr : Value) (rss : List (List Value)) (rq : List (Int × Nat)) (ds : Int) (dv : Nat) (au : BitVec 32) (code : Int) (o : ShowM) (i : Nat) (w : World) (hi : i < 12) (ht : SigTold I hs rq ds au o i)
    (hA : IMA I L M w) (hK : KerAt w K vh css hs nx ms) (hN : NxAt w N vr rss rq ds dv au code) (hlen : hs.length ≤ 5864062014700) (hsm : Few hs) (hrq : rq.length ≤ 5864062014700) :
    Calls Tryz.prog 20 #[.agg L.toArray, .agg M.toArray, .agg K.toArray, .agg N.toArray, .agg (showL o).toArray, .int .i64 i] w fun e w' => e = .returned (.bool true) ∧ Below w.heap.size w w' := by
  have szL := lay_size hA.f.l.len
  have szM := img_size hA.f.m.len
  obtain ⟨S, hS⟩ : ∃ S, showL o = S := ⟨_, rfl⟩
  rw [hS]
  obtain ⟨W0, hW0⟩ : ∃ W0, ((((w.alloc (.cells L.toArray 29)).alloc (.cells M.toArray 35)).alloc (.cells K.toArray 41)).alloc (.cells N.toArray 50)).alloc (.cells S.toArray 52) = W0 := ⟨_, rfl⟩
  have B0 : Below w.heap.size w W0 := by rw [← hW0]; exact below_step (below_step (below_step (below_step (below_new _ _) (below_new _ _)) (below_new _ _)) (below_new _ _)) (below_new _ _)
  have V : GV w W0 I L M K N vh css hs nx ms vr rss rq ds dv au code S := ⟨B0, by rw [← hW0]; exact ⟨old_at (old_at (old_at (old_at (new_at rfl _) _) _) _) _, old_at (old_at (old_at (new_at (by simp) _) _) _) _⟩, by rw [← hW0]; exact old_at (old_at (new_at (by simp) _) _) _, by rw [← hW0]; exact old_at (new_at (by simp) _) _, by rw [← hW0]; exact new_at (by simp) _, hA.later B0, hK.later B0, hN.later B0⟩
  have HS5 := Lib.hid (show S[5]? = some (.int .u32 o.off.toNat) by rw [← hS]; rfl)
  have HS6 := Lib.hid (show S[6]? = some (.int .u32 o.steady.toNat) by rw [← hS]; rfl)
  have HS7 := Lib.hid (show S[7]? = some (.int .u32 o.flash.toNat) by rw [← hS]; rfl)
  have HS8 := Lib.hid (show S[8]? = some (.int .u32 o.autos.toNat) by rw [← hS]; rfl)
  have HSM := Lib.hid hsm
  have hi32 : i < 32 := by omega
  have HTT := Lib.hid ht
  have hll := hK.hs.len
  have hrl := hN.rq.len
  obtain ⟨Ah, ch, rfl, _⟩ := hK.hs.sl.form
  obtain ⟨Ar, cr, rfl, _⟩ := hN.rq.sl.form
  clear hS hA hK hN hsm B0 ht
  go_enter Tryz.func20, Tryz.ntmps20
  go_upto_region 1 with (fail)
  generalize ((((w.alloc (.cells L.toArray 29)).alloc (.cells M.toArray 35)).alloc (.cells K.toArray 41)).alloc (.cells N.toArray 50)).alloc (.cells S.toArray 52) = W0' at *
  subst hW0
  obtain ⟨n, hn⟩ : ∃ n, css.length = n := ⟨_, rfl⟩
  have HN := Lib.hid hn
  have HH := Lib.hid (hn ▸ V.k.held)
  have hn1 : n ≤ 5864062014700 := by omega
  clear hn hll hlen
  go_wp2
  go_loopw [13, 14, 15] (fun hv cv jv wr => ∃ k : Nat, k ≤ n ∧ jv = .int .i64 k ∧ hv = .bool ((hs.take k).any fun h => h.sig == (i : Int)) ∧ cv = .bool ((hs.take k).any fun h => h.sig == (i : Int) && clearB I.stand I.occB I.litB h) ∧ GV w wr I L M K N (.slice Ah css.length ch) css hs nx ms (.slice Ar rss.length cr) rss rq ds dv au code S) (fun hv cv jv _ => n - (intOf jv).toNat)
  case atStart => exact ⟨0, Nat.zero_le _, rfl, rfl, rfl, V⟩
  case round =>
    clear V
    obtain ⟨k, hk, rfl, rfl, rfl, V⟩ := hrel
    obtain ⟨hb, hhb⟩ : ∃ b, ((hs.take k).any fun h => h.sig == (i : Int)) = b := ⟨_, rfl⟩
    obtain ⟨cb, hcb⟩ : ∃ b, ((hs.take k).any fun h => h.sig == (i : Int) && clearB I.stand I.occB I.litB h) = b := ⟨_, rfl⟩
    rw [hhb, hcb]
    have HHB := Lib.hid hhb
    have HCB := Lib.hid hcb
    clear hhb hcb
    have y1 := cell_list V.kb HH.out
    by_cases hlt : k < n
    · have hcl : css.length = n := HN.out
      obtain ⟨cs, hcs⟩ : ∃ s, css[k]? = some s := ⟨_, List.getElem?_eq_getElem (by omega)⟩
      obtain ⟨q, hq⟩ : ∃ s, hs[k]? = some s := ⟨_, List.getElem?_eq_getElem (by rw [← V.k.hs.len]; omega)⟩
      obtain ⟨b, off, c', hv, hrow⟩ := V.k.hs.row hcs
      have hHq := V.k.hs.at_ k cs q hcs hq
      obtain ⟨rfl, _, rfl⟩ := Value.slice.inj hv
      obtain ⟨s1, s2, s3⟩ := HSM.out q (List.mem_of_getElem? hq)
      have szS := held_size hHq.len
      have i1 : (k : Int) < (n : Int) := by omega
      have i2 : decide (k < n) = true := decide_eq_true hlt
      have HC := Lib.hid hq
      have z1 := hrow 1 _ hHq.sig
      have blt := World.block_lt_of_cell? _ _ (hrow 0 _ hHq.id)
      have HQ := Lib.hid hHq
      have t1 := Lib.hid (any_takeP (fun h : HeldM => h.sig == (i : Int)) hs k q hq)
      have t2 := Lib.hid (any_takeP (fun h : HeldM => h.sig == (i : Int) && clearB I.stand I.occB I.litB h) hs k q hq)
      clear hcs hq hv hcl hHq
      obtain ⟨sg, hsg⟩ : ∃ sg, q.sig = sg := ⟨_, rfl⟩
      rw [hsg] at z1
      have HSG := Lib.hid hsg
      clear hsg
      obtain ⟨d, hd⟩ : ∃ d, (sg == (i : Int)) = d := ⟨_, rfl⟩
      have HD := Lib.hid hd
      cases d
      · go_wp2
        go_roundw
        case rel => exact ⟨k + 1, by omega, by go_num, by rw [t1.out, HHB.out, HSG.out, HD.out, Bool.or_false], by rw [t2.out, HCB.out, HSG.out, HD.out, Bool.false_and, Bool.or_false], V⟩
        case measure => simp [intOf]; omega
      · cases cb
        · obtain ⟨cl, hcl⟩ : ∃ cl, clearB I.stand I.occB I.litB q = cl := ⟨_, rfl⟩
          have HCL := Lib.hid hcl
          clear hcl
          go_upto_region 7 with (fail)
          clear z1
          refine wp_region_held_drew (S := (fun w' => w'.rangeAt w.heap.size 0 L ∧ w'.rangeAt (w.heap.size + 1) 0 M ∧ w'.cell? ⟨w.heap.size + 1 + 1, 1, none⟩ = some (.slice (some ⟨b, off, none⟩) n ch) ∧ w'.rangeAt b (off + k * 23) cs)) (by kernel_rfl) ?_ (fun hHeld => ?_)
          · exact ⟨range_of V.v.l, range_of V.v.m, cell_list V.kb HH.out, hrow⟩
          have hr' : wr.drew.rangeAt b (off + k * 23) cs := hrow
          have bd : Below wr.heap.size wr wr.drew := (Below.refl _ wr).drew
          have HQ2 := Lib.hid (HQ.out.later bd)
          have blt' : b < wr.drew.heap.size := blt
          replace V := V.later bd
          clear hrow HQ blt bd y1
          generalize wr.drew = X at *
          refine wpAnyH_take (i := 0) (v := ?_) rfl (by kernel_rfl) (by kernel_rfl) (by kernel_rfl) (fun _ _ _ h => h) (Or.inl ⟨by kernel_rfl, ?_⟩) (by assumption) ?_
          rotate_left
          · intro w hSw
            try dsimp only at hSw
            go_simp
            try with_reducible rfl
          simp only [List.getElem_toArray, List.getElem_cons_succ, List.getElem_cons_zero, Act.put, List.setIfInBounds_toArray, List.set_cons_zero, List.set_cons_succ]
          refine wpAnyH_take (i := 1) (v := ?_) rfl (by kernel_rfl) (by kernel_rfl) (by kernel_rfl) (fun _ _ _ h => h) (Or.inl ⟨by kernel_rfl, ?_⟩) (by assumption) ?_
          rotate_left
          · intro w hSw
            try dsimp only at hSw
            go_simp
            try with_reducible rfl
          simp only [List.getElem_toArray, List.getElem_cons_succ, List.getElem_cons_zero, Act.put, List.setIfInBounds_toArray, List.set_cons_zero, List.set_cons_succ]
          refine wpAnyH_take (i := 2) (v := .agg (L : List Value).toArray) rfl (by kernel_rfl) (by kernel_rfl) (by kernel_rfl) (fun _ _ _ h => h) (yieldsIf_load_mid (by kernel_rfl) 29 (.tmp 6) (by kernel_rfl) (w.heap.size) 0 (by kernel_rfl) L _ (fun w' h => h.1) (by first | exact Tryz.underlying29) rfl (by first | assumption | (simp only [*]; kernel_rfl))) (by assumption) ?_
          try simp only [List.getElem_toArray, List.getElem_cons_succ, List.getElem_cons_zero, Act.put, List.setIfInBounds_toArray, List.set_cons_zero, List.set_cons_succ]
          refine wpAnyH_take (i := 3) (v := .agg (M : List Value).toArray) rfl (by kernel_rfl) (by kernel_rfl) (by kernel_rfl) (fun _ _ _ h => h) (yieldsIf_load_mid (by kernel_rfl) 35 (.tmp 7) (by kernel_rfl) (w.heap.size + 1) 0 (by kernel_rfl) M _ (fun w' h => h.2.1) (by first | exact Tryz.underlying35) rfl (by first | assumption | (simp only [*]; kernel_rfl))) (by assumption) ?_
          try simp only [List.getElem_toArray, List.getElem_cons_succ, List.getElem_cons_zero, Act.put, List.setIfInBounds_toArray, List.set_cons_zero, List.set_cons_succ]
          refine wpAnyH_take (i := 4) (v := ?_) rfl (by kernel_rfl) (by kernel_rfl) (by kernel_rfl) (fun _ _ _ h => h) (Or.inl ⟨by kernel_rfl, ?_⟩) (by assumption) ?_
          rotate_left
          · intro w hSw
            try dsimp only at hSw
            go_simp
            try with_reducible rfl
          simp only [List.getElem_toArray, List.getElem_cons_succ, List.getElem_cons_zero, Act.put, List.setIfInBounds_toArray, List.set_cons_zero, List.set_cons_succ]
          refine wpAnyH_take (i := 5) (v := ?_) rfl (by kernel_rfl) (by kernel_rfl) (by kernel_rfl) (fun _ _ _ h => h) (Or.inl ⟨by kernel_rfl, ?_⟩) (by assumption) ?_
          rotate_left
          · intro w hSw
            try dsimp only at hSw
            go_simp
            try with_reducible rfl
          simp only [List.getElem_toArray, List.getElem_cons_succ, List.getElem_cons_zero, Act.put, List.setIfInBounds_toArray, List.set_cons_zero, List.set_cons_succ]
          refine wpAnyH_take (i := 6) (v := ?_) rfl (by kernel_rfl) (by kernel_rfl) (by kernel_rfl) (fun _ _ _ h => h) (Or.inl ⟨by kernel_rfl, ?_⟩) (by assumption) ?_
          rotate_left
          · intro w hSw
            try dsimp only at hSw
            go_simp
            try with_reducible rfl
          simp only [List.getElem_toArray, List.getElem_cons_succ, List.getElem_cons_zero, Act.put, List.setIfInBounds_toArray, List.set_cons_zero, List.set_cons_succ]
          refine wpAnyH_take (i := 7) (v := ?_) rfl (by kernel_rfl) (by kernel_rfl) (by kernel_rfl) (fun _ _ _ h => h) (Or.inl ⟨by kernel_rfl, ?_⟩) (by assumption) ?_
          rotate_left
          · intro w hSw
            try dsimp only at hSw
            go_simp
            try with_reducible rfl
          simp only [List.getElem_toArray, List.getElem_cons_succ, List.getElem_cons_zero, Act.put, List.setIfInBounds_toArray, List.set_cons_zero, List.set_cons_succ]
          refine wpAnyH_take (i := 8) (v := .agg (cs : List Value).toArray) rfl (by kernel_rfl) (by kernel_rfl) (by kernel_rfl) (fun _ _ _ h => h) (yieldsIf_load_mid (by kernel_rfl) 80 (.tmp 41) (by kernel_rfl) (b) (off + k * 23) (by kernel_rfl) cs _ (fun w' h => h.2.2.2) (by first | exact Tryz.underlying80) rfl (by first | assumption | (simp only [*]; kernel_rfl) | kernel_rfl)) (by assumption) ?_
          simp only [List.getElem_toArray, List.getElem_cons_succ, List.getElem_cons_zero, Act.put, List.setIfInBounds_toArray, List.set_cons_zero, List.set_cons_succ]
          clear hHeld
          refine ready1 (i := 9) rfl (by kernel_rfl) (by kernel_rfl) (fun K hK => ?_)
          refine Node.wp_fn 75 [.tmp 36, .tmp 37, .tmp 42] _ [.agg L.toArray, .agg M.toArray, .agg cs.toArray] (by rfl) (by kernel_rfl) (enters Tryz.func75 (by kernel_rfl) rfl) (refClear20_c I L M cs q cl X HCL.out.symm V.a HQ2.out s1 s2 s3) ?_
          rintro e X' ⟨rfl, bF⟩
          refine ⟨_, rfl, ?_⟩
          replace V := V.later bF
          have hr := range_below hr' bF blt'
          clear bF hr' HQ2 blt'
          refine hK.out _ _ ⟨range_of V.v.l, range_of V.v.m, cell_list V.kb HH.out, hr⟩ (fun hHeld => ?_)
          clear hK K
          try simp only [List.getElem_toArray, List.getElem_cons_succ, List.getElem_cons_zero, Act.put, List.setIfInBounds_toArray, List.set_cons_zero, List.set_cons_succ]
          refine wpAnyH_take (i := 10) (v := ?_) rfl (by kernel_rfl) (by kernel_rfl) (by kernel_rfl) (fun _ _ _ h => h) (Or.inl ⟨by kernel_rfl, ?_⟩) (by assumption) ?_
          rotate_left
          · intro w hSw
            try dsimp only at hSw
            go_simp
            try with_reducible rfl
          simp only [List.getElem_toArray, List.getElem_cons_succ, List.getElem_cons_zero, Act.put, List.setIfInBounds_toArray, List.set_cons_zero, List.set_cons_succ]
          refine wpAnyH_take (i := 11) (v := ?_) rfl (by kernel_rfl) (by kernel_rfl) (by kernel_rfl) (fun _ _ _ h => h) (Or.inl ⟨by kernel_rfl, ?_⟩) (by assumption) ?_
          rotate_left
          · intro w hSw
            try dsimp only at hSw
            go_simp
            try with_reducible rfl
          simp only [List.getElem_toArray, List.getElem_cons_succ, List.getElem_cons_zero, Act.put, List.setIfInBounds_toArray, List.set_cons_zero, List.set_cons_succ]
          clear hHeld
          refine wpAnyH_done (by kernel_rfl) ?_ _
          go_wp2
          go_roundw
          case rel => exact ⟨k + 1, by omega, by go_num, by rw [t1.out, HSG.out, HD.out, Bool.or_true], by rw [t2.out, HCB.out, HSG.out, HD.out, HCL.out]; rfl, V⟩
          case measure => simp [intOf]; omega
        · go_upto_region 7 with (fail)
          clear z1
          refine wp_region_held_drew (S := (fun _ => True)) (by kernel_rfl) ?_ (fun hHeld => ?_)
          · trivial
          replace V := V.later (Below.refl _ wr).drew
          clear hrow HQ blt y1
          generalize wr.drew = X at *
          refine wpAnyH_take (i := 0) (v := ?_) rfl (by kernel_rfl) (by kernel_rfl) (by kernel_rfl) (fun _ _ _ h => h) (Or.inl ⟨by kernel_rfl, ?_⟩) (by assumption) ?_
          rotate_left
          · intro w hSw
            try dsimp only at hSw
            go_simp
            try with_reducible rfl
          simp only [List.getElem_toArray, List.getElem_cons_succ, List.getElem_cons_zero, Act.put, List.setIfInBounds_toArray, List.set_cons_zero, List.set_cons_succ]
          refine wpAnyH_take (i := 1) (v := ?_) rfl (by kernel_rfl) (by kernel_rfl) (by kernel_rfl) (fun _ _ _ h => h) (Or.inl ⟨by kernel_rfl, ?_⟩) (by assumption) ?_
          rotate_left
          · intro w hSw
            try dsimp only at hSw
            go_simp
            try with_reducible rfl
          simp only [List.getElem_toArray, List.getElem_cons_succ, List.getElem_cons_zero, Act.put, List.setIfInBounds_toArray, List.set_cons_zero, List.set_cons_succ]
          refine wpAnyH_take (i := 2) (v := undef) rfl (by kernel_rfl) (by kernel_rfl) (by kernel_rfl) (fun _ _ _ h => h) (Or.inr ⟨by kernel_rfl, rfl⟩) (by assumption) ?_
          refine wpAnyH_take (i := 3) (v := undef) rfl (by kernel_rfl) (by kernel_rfl) (by kernel_rfl) (fun _ _ _ h => h) (Or.inr ⟨by kernel_rfl, rfl⟩) (by assumption) ?_
          refine wpAnyH_take (i := 4) (v := undef) rfl (by kernel_rfl) (by kernel_rfl) (by kernel_rfl) (fun _ _ _ h => h) (Or.inr ⟨by kernel_rfl, rfl⟩) (by assumption) ?_
          refine wpAnyH_take (i := 5) (v := undef) rfl (by kernel_rfl) (by kernel_rfl) (by kernel_rfl) (fun _ _ _ h => h) (Or.inr ⟨by kernel_rfl, rfl⟩) (by assumption) ?_
          refine wpAnyH_take (i := 6) (v := undef) rfl (by kernel_rfl) (by kernel_rfl) (by kernel_rfl) (fun _ _ _ h => h) (Or.inr ⟨by kernel_rfl, rfl⟩) (by assumption) ?_
          refine wpAnyH_take (i := 7) (v := undef) rfl (by kernel_rfl) (by kernel_rfl) (by kernel_rfl) (fun _ _ _ h => h) (Or.inr ⟨by kernel_rfl, rfl⟩) (by assumption) ?_
          refine wpAnyH_take (i := 8) (v := undef) rfl (by kernel_rfl) (by kernel_rfl) (by kernel_rfl) (fun _ _ _ h => h) (Or.inr ⟨by kernel_rfl, rfl⟩) (by assumption) ?_
          refine wpAnyH_take (i := 9) (v := undef) rfl (by kernel_rfl) (by kernel_rfl) (by kernel_rfl) (fun _ _ _ h => h) (Or.inr ⟨by kernel_rfl, rfl⟩) (by assumption) ?_
          simp only [List.getElem_toArray, List.getElem_cons_succ, List.getElem_cons_zero, Act.put, List.setIfInBounds_toArray, List.set_cons_zero, List.set_cons_succ]
          refine wpAnyH_take (i := 10) (v := ?_) rfl (by kernel_rfl) (by kernel_rfl) (by kernel_rfl) (fun _ _ _ h => h) (Or.inl ⟨by kernel_rfl, ?_⟩) (by assumption) ?_
          rotate_left
          · intro w hSw
            try dsimp only at hSw
            go_simp
            try with_reducible rfl
          simp only [List.getElem_toArray, List.getElem_cons_succ, List.getElem_cons_zero, Act.put, List.setIfInBounds_toArray, List.set_cons_zero, List.set_cons_succ]
          refine wpAnyH_take (i := 11) (v := ?_) rfl (by kernel_rfl) (by kernel_rfl) (by kernel_rfl) (fun _ _ _ h => h) (Or.inl ⟨by kernel_rfl, ?_⟩) (by assumption) ?_
          rotate_left
          · intro w hSw
            try dsimp only at hSw
            go_simp
            try with_reducible rfl
          simp only [List.getElem_toArray, List.getElem_cons_succ, List.getElem_cons_zero, Act.put, List.setIfInBounds_toArray, List.set_cons_zero, List.set_cons_succ]
          clear hHeld
          refine wpAnyH_done (by kernel_rfl) ?_ _
          go_wp2
          go_roundw
          case rel => exact ⟨k + 1, by omega, by go_num, by rw [t1.out, HSG.out, HD.out, Bool.or_true], by rw [t2.out, HCB.out]; rfl, V⟩
          case measure => simp [intOf]; omega
    · obtain rfl : k = n := by omega
      have i2 : decide (k < k) = false := decide_eq_false (by omega)
      have hcl : css.length = k := HN.out
      have hhl := V.k.hs.len
      have e1 := HHB.out
      have e2 := HCB.out
      rw [List.take_of_length_le (by omega)] at e1 e2
      have HE1 := Lib.hid e1
      have HE2 := Lib.hid e2
      clear e1 e2 hhl hcl HHB HCB
      have x0 := cell_list V.nb V.n.ds
      have y5 := cell_list V.nb V.n.st
      obtain ⟨b0, hb0⟩ : ∃ b, (ds == (i : Int)) = b := ⟨_, rfl⟩
      have HB0 := Lib.hid hb0
      obtain ⟨m, hm⟩ : ∃ m, rss.length = m := ⟨_, rfl⟩
      have HM := Lib.hid hm
      have hm1 : m ≤ 5864062014700 := by omega
      have HST := Lib.hid (hm ▸ V.n.st)
      rw [hm] at y5
      clear hm
      go_upto_region 9 with (fail)
      clear x0 y5 y1
      go_wp2
      go_loopw [16, 17] (fun bv jv wj => ∃ k2 : Nat, k2 ≤ m ∧ jv = .int .i64 k2 ∧ bv = .bool (b0 || (rq.take k2).any fun r => r.1 == (i : Int)) ∧ wj = wr) (fun bv jv _ => m - (intOf jv).toNat)
      case atStart => exact ⟨0, Nat.zero_le _, rfl, by simp, rfl⟩
      case round =>
        obtain ⟨k2, hk2, rfl, rfl, rfl⟩ := hrel
        obtain ⟨bb, hbb⟩ : ∃ b, (b0 || (rq.take k2).any fun r => r.1 == (i : Int)) = b := ⟨_, rfl⟩
        rw [hbb]
        have HBB := Lib.hid hbb
        clear hbb
        have y5 := cell_list V.nb HST.out
        by_cases hlt2 : k2 < m
        · have hml : rss.length = m := HM.out
          obtain ⟨cs2, hcs2⟩ : ∃ s, rss[k2]? = some s := ⟨_, List.getElem?_eq_getElem (by omega)⟩
          obtain ⟨r2, hr2⟩ : ∃ s, rq[k2]? = some s := ⟨_, List.getElem?_eq_getElem (by omega)⟩
          obtain ⟨bq, oq, cq, hv2, hrow2⟩ := V.n.rq.row hcs2
          obtain ⟨g0, _⟩ := V.n.rq.sg k2 cs2 r2 hcs2 hr2
          obtain ⟨rfl, _, rfl⟩ := Value.slice.inj hv2
          have z0 := hrow2 0 _ g0
          rw [Nat.add_zero] at z0
          have j1 : (k2 : Int) < (m : Int) := by omega
          have j2 : decide (k2 < m) = true := decide_eq_true hlt2
          have HX := Lib.hid (any_takeP (fun r : Int × Nat => r.1 == (i : Int)) rq k2 r2 hr2)
          obtain ⟨rv, rn⟩ := r2
          simp only at z0
          obtain ⟨d, hd⟩ : ∃ d, (rv == (i : Int)) = d := ⟨_, rfl⟩
          have HD := Lib.hid hd
          clear hcs2 hr2 hv2 hrow2 g0 hml
          cases bb
          · cases d
            all_goals
              go_wp2
              go_roundw
              case rel => exact ⟨k2 + 1, by omega, by go_num, by rw [HX.out, ← Bool.or_assoc, HBB.out, HD.out]; rfl, trivial⟩
              case measure => simp [intOf]; omega
          · clear z0 hd
            go_wp2
            go_roundw
            case rel => exact ⟨k2 + 1, by omega, by go_num, by rw [HX.out, ← Bool.or_assoc, HBB.out]; rfl, trivial⟩
            case measure => simp [intOf]; omega
        · obtain rfl : k2 = m := by omega
          have j2 : decide (k2 < k2) = false := decide_eq_false (by omega)
          have hml : rss.length = k2 := HM.out
          have e3 := HBB.out
          rw [List.take_of_length_le (by omega)] at e3
          have T5 := HTT.out.off
          have T6 := HTT.out.steady
          have T7 := HTT.out.flash
          have T8 := HTT.out.autos
          rw [HE2.out] at T5
          rw [HE1.out] at T6
          rw [HB0.out, e3, HE1.out] at T7
          have U5 := Lib.hid T5.symm
          have U6 := Lib.hid T6.symm
          have U7 := Lib.hid T7.symm
          have U8 := Lib.hid T8
          clear T5 T6 T7 T8 e3 hml HTT HE1 HE2 HBB HB0 hb0 hlt2 hlt
          have HAU := Lib.hid V.n.au
          go_upto_region 13 with (fail)
          have z5 := cell_list V.sb HS5.out
          have z6 := cell_list V.sb HS6.out
          have z7 := cell_list V.sb HS7.out
          have z8 := cell_list V.sb HS8.out
          have za := cell_list V.nb HAU.out
          have ent := enters Tryz.func18 (by kernel_rfl) rfl
          cases bb
          · skip
            refine wp_region_held_drew (S := (fun w' => w'.cell? ⟨w.heap.size + 1 + 1 + 1 + 1, 5, none⟩ = some (.int .u32 o.off.toNat) ∧ w'.cell? ⟨w.heap.size + 1 + 1 + 1 + 1, 6, none⟩ = some (.int .u32 o.steady.toNat) ∧ w'.cell? ⟨w.heap.size + 1 + 1 + 1 + 1, 7, none⟩ = some (.int .u32 o.flash.toNat) ∧ w'.cell? ⟨w.heap.size + 1 + 1 + 1 + 1, 8, none⟩ = some (.int .u32 o.autos.toNat) ∧ w'.cell? ⟨w.heap.size + 1 + 1 + 1, 6, none⟩ = some (.int .u32 au.toNat))) (by kernel_rfl) ?_ (fun hHeld => ?_)
            · exact ⟨z5, z6, z7, z8, za⟩
            have hSS := hHeld
            replace V := V.later (Below.refl _ wr).drew
            clear z5 z6 z7 z8 za y5
            generalize wr.drew = X at *
            refine wpAnyH_take (i := 0) (v := ?_) rfl (by kernel_rfl) (by kernel_rfl) (by kernel_rfl) (fun _ _ _ h => h) (Or.inl ⟨by kernel_rfl, ?_⟩) (by assumption) ?_
            rotate_left
            · intro w hSw
              try dsimp only at hSw
              go_simp
              try with_reducible rfl
            simp only [List.getElem_toArray, List.getElem_cons_succ, List.getElem_cons_zero, Act.put, List.setIfInBounds_toArray, List.set_cons_zero, List.set_cons_succ]
            refine wpAnyH_take (i := 1) (v := ?_) rfl (by kernel_rfl) (by kernel_rfl) (by kernel_rfl) (fun _ _ _ h => h) (Or.inl ⟨by kernel_rfl, ?_⟩) (by assumption) ?_
            rotate_left
            · intro w hSw
              try dsimp only at hSw
              go_simp
              try with_reducible rfl
            simp only [List.getElem_toArray, List.getElem_cons_succ, List.getElem_cons_zero, Act.put, List.setIfInBounds_toArray, List.set_cons_zero, List.set_cons_succ]
            refine wpAnyH_take (i := 2) (v := ?_) rfl (by kernel_rfl) (by kernel_rfl) (by kernel_rfl) (fun _ _ _ h => h) (Or.inl ⟨by kernel_rfl, ?_⟩) (by assumption) ?_
            rotate_left
            · intro w hSw
              try dsimp only at hSw
              go_simp
              try with_reducible rfl
            simp only [List.getElem_toArray, List.getElem_cons_succ, List.getElem_cons_zero, Act.put, List.setIfInBounds_toArray, List.set_cons_zero, List.set_cons_succ]
            refine wpAnyH_take (i := 4) (v := ?_) rfl (by kernel_rfl) (by kernel_rfl) (by kernel_rfl) (fun _ _ _ h => h) (Or.inl ⟨by kernel_rfl, ?_⟩) (by assumption) ?_
            rotate_left
            · intro w hSw
              try dsimp only at hSw
              go_simp
              try with_reducible rfl
            simp only [List.getElem_toArray, List.getElem_cons_succ, List.getElem_cons_zero, Act.put, List.setIfInBounds_toArray, List.set_cons_zero, List.set_cons_succ]
            clear hHeld
            refine ready1 (i := 3) rfl (by kernel_rfl) (by kernel_rfl) (fun K hK => ?_)
            refine Node.wp_fn 18 [.tmp 69, .tmp 70] _ [.int .u32 o.off.toNat, .int .i64 i] (by rfl) (by kernel_rfl) ent (bit28_c o.off i cb _ hi32 U5.out) ?_
            rintro e X' ⟨rfl, rfl⟩
            refine ⟨_, rfl, ?_⟩
            refine hK.out _ _ hSS (fun hHeld => ?_)
            clear hK K
            try simp only [List.getElem_toArray, List.getElem_cons_succ, List.getElem_cons_zero, Act.put, List.setIfInBounds_toArray, List.set_cons_zero, List.set_cons_succ]
            refine wpAnyH_take (i := 5) (v := ?_) rfl (by kernel_rfl) (by kernel_rfl) (by kernel_rfl) (fun _ _ _ h => h) (Or.inl ⟨by kernel_rfl, ?_⟩) (by assumption) ?_
            rotate_left
            · intro w hSw
              try dsimp only at hSw
              go_simp
              try with_reducible rfl
            simp only [List.getElem_toArray, List.getElem_cons_succ, List.getElem_cons_zero, Act.put, List.setIfInBounds_toArray, List.set_cons_zero, List.set_cons_succ]
            refine wpAnyH_take (i := 6) (v := ?_) rfl (by kernel_rfl) (by kernel_rfl) (by kernel_rfl) (fun _ _ _ h => h) (Or.inl ⟨by kernel_rfl, ?_⟩) (by assumption) ?_
            rotate_left
            · intro w hSw
              try dsimp only at hSw
              go_simp
              try with_reducible rfl
            simp only [List.getElem_toArray, List.getElem_cons_succ, List.getElem_cons_zero, Act.put, List.setIfInBounds_toArray, List.set_cons_zero, List.set_cons_succ]
            refine wpAnyH_take (i := 7) (v := ?_) rfl (by kernel_rfl) (by kernel_rfl) (by kernel_rfl) (fun _ _ _ h => h) (Or.inl ⟨by kernel_rfl, ?_⟩) (by assumption) ?_
            rotate_left
            · intro w hSw
              try dsimp only at hSw
              go_simp
              try with_reducible rfl
            simp only [List.getElem_toArray, List.getElem_cons_succ, List.getElem_cons_zero, Act.put, List.setIfInBounds_toArray, List.set_cons_zero, List.set_cons_succ]
            refine wpAnyH_take (i := 8) (v := ?_) rfl (by kernel_rfl) (by kernel_rfl) (by kernel_rfl) (fun _ _ _ h => h) (Or.inl ⟨by kernel_rfl, ?_⟩) (by assumption) ?_
            rotate_left
            · intro w hSw
              try dsimp only at hSw
              go_simp
              try with_reducible rfl
            simp only [List.getElem_toArray, List.getElem_cons_succ, List.getElem_cons_zero, Act.put, List.setIfInBounds_toArray, List.set_cons_zero, List.set_cons_succ]
            refine wpAnyH_take (i := 9) (v := ?_) rfl (by kernel_rfl) (by kernel_rfl) (by kernel_rfl) (fun _ _ _ h => h) (Or.inl ⟨by kernel_rfl, ?_⟩) (by assumption) ?_
            rotate_left
            · intro w hSw
              try dsimp only at hSw
              go_simp
              try with_reducible rfl
            simp only [List.getElem_toArray, List.getElem_cons_succ, List.getElem_cons_zero, Act.put, List.setIfInBounds_toArray, List.set_cons_zero, List.set_cons_succ]
            refine wpAnyH_take (i := 11) (v := ?_) rfl (by kernel_rfl) (by kernel_rfl) (by kernel_rfl) (fun _ _ _ h => h) (Or.inl ⟨by kernel_rfl, ?_⟩) (by assumption) ?_
            rotate_left
            · intro w hSw
              try dsimp only at hSw
              go_simp
              try with_reducible rfl
            simp only [List.getElem_toArray, List.getElem_cons_succ, List.getElem_cons_zero, Act.put, List.setIfInBounds_toArray, List.set_cons_zero, List.set_cons_succ]
            clear hHeld
            refine ready1 (i := 10) rfl (by kernel_rfl) (by kernel_rfl) (fun K hK => ?_)
            refine Node.wp_fn 18 [.tmp 76, .tmp 77] _ [.int .u32 o.steady.toNat, .int .i64 i] (by rfl) (by kernel_rfl) ent (bit28_c o.steady i hb _ hi32 U6.out) ?_
            rintro e X' ⟨rfl, rfl⟩
            refine ⟨_, rfl, ?_⟩
            refine hK.out _ _ hSS (fun hHeld => ?_)
            clear hK K
            try simp only [List.getElem_toArray, List.getElem_cons_succ, List.getElem_cons_zero, Act.put, List.setIfInBounds_toArray, List.set_cons_zero, List.set_cons_succ]
            refine wpAnyH_take (i := 12) (v := ?_) rfl (by kernel_rfl) (by kernel_rfl) (by kernel_rfl) (fun _ _ _ h => h) (Or.inl ⟨by kernel_rfl, ?_⟩) (by assumption) ?_
            rotate_left
            · intro w hSw
              try dsimp only at hSw
              go_simp
              try with_reducible rfl
            simp only [List.getElem_toArray, List.getElem_cons_succ, List.getElem_cons_zero, Act.put, List.setIfInBounds_toArray, List.set_cons_zero, List.set_cons_succ]
            refine wpAnyH_take (i := 13) (v := ?_) rfl (by kernel_rfl) (by kernel_rfl) (by kernel_rfl) (fun _ _ _ h => h) (Or.inl ⟨by kernel_rfl, ?_⟩) (by assumption) ?_
            rotate_left
            · intro w hSw
              try dsimp only at hSw
              go_simp
              try with_reducible rfl
            simp only [List.getElem_toArray, List.getElem_cons_succ, List.getElem_cons_zero, Act.put, List.setIfInBounds_toArray, List.set_cons_zero, List.set_cons_succ]
            refine wpAnyH_take (i := 14) (v := ?_) rfl (by kernel_rfl) (by kernel_rfl) (by kernel_rfl) (fun _ _ _ h => h) (Or.inl ⟨by kernel_rfl, ?_⟩) (by assumption) ?_
            rotate_left
            · intro w hSw
              try dsimp only at hSw
              go_simp
              try with_reducible rfl
            simp only [List.getElem_toArray, List.getElem_cons_succ, List.getElem_cons_zero, Act.put, List.setIfInBounds_toArray, List.set_cons_zero, List.set_cons_succ]
            refine wpAnyH_take (i := 15) (v := ?_) rfl (by kernel_rfl) (by kernel_rfl) (by kernel_rfl) (fun _ _ _ h => h) (Or.inl ⟨by kernel_rfl, ?_⟩) (by assumption) ?_
            rotate_left
            · intro w hSw
              try dsimp only at hSw
              go_simp
              try with_reducible rfl
            simp only [List.getElem_toArray, List.getElem_cons_succ, List.getElem_cons_zero, Act.put, List.setIfInBounds_toArray, List.set_cons_zero, List.set_cons_succ]
            refine wpAnyH_take (i := 16) (v := ?_) rfl (by kernel_rfl) (by kernel_rfl) (by kernel_rfl) (fun _ _ _ h => h) (Or.inl ⟨by kernel_rfl, ?_⟩) (by assumption) ?_
            rotate_left
            · intro w hSw
              try dsimp only at hSw
              go_simp
              try with_reducible rfl
            simp only [List.getElem_toArray, List.getElem_cons_succ, List.getElem_cons_zero, Act.put, List.setIfInBounds_toArray, List.set_cons_zero, List.set_cons_succ]
            refine wpAnyH_take (i := 17) (v := ?_) rfl (by kernel_rfl) (by kernel_rfl) (by kernel_rfl) (fun _ _ _ h => h) (Or.inl ⟨by kernel_rfl, ?_⟩) (by assumption) ?_
            rotate_left
            · intro w hSw
              try dsimp only at hSw
              go_simp
              try with_reducible rfl
            simp only [List.getElem_toArray, List.getElem_cons_succ, List.getElem_cons_zero, Act.put, List.setIfInBounds_toArray, List.set_cons_zero, List.set_cons_succ]
            refine wpAnyH_take (i := 19) (v := ?_) rfl (by kernel_rfl) (by kernel_rfl) (by kernel_rfl) (fun _ _ _ h => h) (Or.inl ⟨by kernel_rfl, ?_⟩) (by assumption) ?_
            rotate_left
            · intro w hSw
              try dsimp only at hSw
              go_simp
              try with_reducible rfl
            simp only [List.getElem_toArray, List.getElem_cons_succ, List.getElem_cons_zero, Act.put, List.setIfInBounds_toArray, List.set_cons_zero, List.set_cons_succ]
            clear hHeld
            refine ready1 (i := 18) rfl (by kernel_rfl) (by kernel_rfl) (fun K hK => ?_)
            refine Node.wp_fn 18 [.tmp 84, .tmp 85] _ [.int .u32 o.flash.toNat, .int .i64 i] (by rfl) (by kernel_rfl) ent (bit28_c o.flash i false _ hi32 (show false = _ from U7.out)) ?_
            rintro e X' ⟨rfl, rfl⟩
            refine ⟨_, rfl, ?_⟩
            refine hK.out _ _ hSS (fun hHeld => ?_)
            clear hK K
            try simp only [List.getElem_toArray, List.getElem_cons_succ, List.getElem_cons_zero, Act.put, List.setIfInBounds_toArray, List.set_cons_zero, List.set_cons_succ]
            refine wpAnyH_take (i := 20) (v := ?_) rfl (by kernel_rfl) (by kernel_rfl) (by kernel_rfl) (fun _ _ _ h => h) (Or.inl ⟨by kernel_rfl, ?_⟩) (by assumption) ?_
            rotate_left
            · intro w hSw
              try dsimp only at hSw
              go_simp
              try with_reducible rfl
            simp only [List.getElem_toArray, List.getElem_cons_succ, List.getElem_cons_zero, Act.put, List.setIfInBounds_toArray, List.set_cons_zero, List.set_cons_succ]
            refine wpAnyH_take (i := 21) (v := undef) rfl (by kernel_rfl) (by kernel_rfl) (by kernel_rfl) (fun _ _ _ h => h) (Or.inr ⟨by kernel_rfl, rfl⟩) (by assumption) ?_
            refine wpAnyH_take (i := 22) (v := undef) rfl (by kernel_rfl) (by kernel_rfl) (by kernel_rfl) (fun _ _ _ h => h) (Or.inr ⟨by kernel_rfl, rfl⟩) (by assumption) ?_
            simp only [List.getElem_toArray, List.getElem_cons_succ, List.getElem_cons_zero, Act.put, List.setIfInBounds_toArray, List.set_cons_zero, List.set_cons_succ]
            refine wpAnyH_take (i := 23) (v := ?_) rfl (by kernel_rfl) (by kernel_rfl) (by kernel_rfl) (fun _ _ _ h => h) (Or.inl ⟨by kernel_rfl, ?_⟩) (by assumption) ?_
            rotate_left
            · intro w hSw
              try dsimp only at hSw
              go_simp
              try with_reducible rfl
            simp only [List.getElem_toArray, List.getElem_cons_succ, List.getElem_cons_zero, Act.put, List.setIfInBounds_toArray, List.set_cons_zero, List.set_cons_succ]
            refine wpAnyH_take (i := 24) (v := ?_) rfl (by kernel_rfl) (by kernel_rfl) (by kernel_rfl) (fun _ _ _ h => h) (Or.inl ⟨by kernel_rfl, ?_⟩) (by assumption) ?_
            rotate_left
            · intro w hSw
              try dsimp only at hSw
              go_simp
              try with_reducible rfl
            simp only [List.getElem_toArray, List.getElem_cons_succ, List.getElem_cons_zero, Act.put, List.setIfInBounds_toArray, List.set_cons_zero, List.set_cons_succ]
            refine wpAnyH_take (i := 25) (v := ?_) rfl (by kernel_rfl) (by kernel_rfl) (by kernel_rfl) (fun _ _ _ h => h) (Or.inl ⟨by kernel_rfl, ?_⟩) (by assumption) ?_
            rotate_left
            · intro w hSw
              try dsimp only at hSw
              go_simp
              try with_reducible rfl
            simp only [List.getElem_toArray, List.getElem_cons_succ, List.getElem_cons_zero, Act.put, List.setIfInBounds_toArray, List.set_cons_zero, List.set_cons_succ]
            refine wpAnyH_take (i := 26) (v := ?_) rfl (by kernel_rfl) (by kernel_rfl) (by kernel_rfl) (fun _ _ _ h => h) (Or.inl ⟨by kernel_rfl, ?_⟩) (by assumption) ?_
            rotate_left
            · intro w hSw
              try dsimp only at hSw
              go_simp
              try with_reducible rfl
            simp only [List.getElem_toArray, List.getElem_cons_succ, List.getElem_cons_zero, Act.put, List.setIfInBounds_toArray, List.set_cons_zero, List.set_cons_succ]
            refine wpAnyH_take (i := 27) (v := ?_) rfl (by kernel_rfl) (by kernel_rfl) (by kernel_rfl) (fun _ _ _ h => h) (Or.inl ⟨by kernel_rfl, ?_⟩) (by assumption) ?_
            rotate_left
            · intro w hSw
              try dsimp only at hSw
              go_simp
              try with_reducible rfl
            simp only [List.getElem_toArray, List.getElem_cons_succ, List.getElem_cons_zero, Act.put, List.setIfInBounds_toArray, List.set_cons_zero, List.set_cons_succ]
            refine wpAnyH_take (i := 28) (v := ?_) rfl (by kernel_rfl) (by kernel_rfl) (by kernel_rfl) (fun _ _ _ h => h) (Or.inl ⟨by kernel_rfl, ?_⟩) (by assumption) ?_
            rotate_left
            · intro w hSw
              try dsimp only at hSw
              go_simp
              try with_reducible rfl
            simp only [List.getElem_toArray, List.getElem_cons_succ, List.getElem_cons_zero, Act.put, List.setIfInBounds_toArray, List.set_cons_zero, List.set_cons_succ]
            refine wpAnyH_take (i := 29) (v := ?_) rfl (by kernel_rfl) (by kernel_rfl) (by kernel_rfl) (fun _ _ _ h => h) (Or.inl ⟨by kernel_rfl, ?_⟩) (by assumption) ?_
            rotate_left
            · intro w hSw
              try dsimp only at hSw
              go_simp
              try with_reducible rfl
            simp only [List.getElem_toArray, List.getElem_cons_succ, List.getElem_cons_zero, Act.put, List.setIfInBounds_toArray, List.set_cons_zero, List.set_cons_succ]
            refine wpAnyH_take (i := 31) (v := ?_) rfl (by kernel_rfl) (by kernel_rfl) (by kernel_rfl) (fun _ _ _ h => h) (Or.inl ⟨by kernel_rfl, ?_⟩) (by assumption) ?_
            rotate_left
            · intro w hSw
              try dsimp only at hSw
              go_simp
              try with_reducible rfl
            simp only [List.getElem_toArray, List.getElem_cons_succ, List.getElem_cons_zero, Act.put, List.setIfInBounds_toArray, List.set_cons_zero, List.set_cons_succ]
            refine wpAnyH_take (i := 32) (v := ?_) rfl (by kernel_rfl) (by kernel_rfl) (by kernel_rfl) (fun _ _ _ h => h) (Or.inl ⟨by kernel_rfl, ?_⟩) (by assumption) ?_
            rotate_left
            · intro w hSw
              try dsimp only at hSw
              go_simp
              try with_reducible rfl
            simp only [List.getElem_toArray, List.getElem_cons_succ, List.getElem_cons_zero, Act.put, List.setIfInBounds_toArray, List.set_cons_zero, List.set_cons_succ]
            refine wpAnyH_take (i := 33) (v := ?_) rfl (by kernel_rfl) (by kernel_rfl) (by kernel_rfl) (fun _ _ _ h => h) (Or.inl ⟨by kernel_rfl, ?_⟩) (by assumption) ?_
            rotate_left
            · intro w hSw
              try dsimp only at hSw
              go_simp
              try with_reducible rfl
            simp only [List.getElem_toArray, List.getElem_cons_succ, List.getElem_cons_zero, Act.put, List.setIfInBounds_toArray, List.set_cons_zero, List.set_cons_succ]
            clear hHeld
            obtain ⟨ab, hab⟩ : ∃ b, au.getLsbD i = b := ⟨_, rfl⟩
            refine ready1 (i := 30) rfl (by kernel_rfl) (by kernel_rfl) (fun K hK => ?_)
            refine Node.wp_fn 18 [.tmp 96, .tmp 97] _ [.int .u32 o.autos.toNat, .int .i64 i] (by rfl) (by kernel_rfl) ent (bit28_c o.autos i ab _ hi32 (hab.symm.trans U8.out.symm)) ?_
            rintro e X' ⟨rfl, rfl⟩
            refine ⟨_, rfl, ?_⟩
            refine hK.out _ _ hSS (fun hHeld => ?_)
            clear hK K
            try simp only [List.getElem_toArray, List.getElem_cons_succ, List.getElem_cons_zero, Act.put, List.setIfInBounds_toArray, List.set_cons_zero, List.set_cons_succ]
            clear hHeld
            refine ready1 (i := 34) rfl (by kernel_rfl) (by kernel_rfl) (fun K hK => ?_)
            refine Node.wp_fn 18 [.tmp 100, .tmp 101] _ [.int .u32 au.toNat, .int .i64 i] (by rfl) (by kernel_rfl) ent (bit28_c au i ab _ hi32 hab.symm) ?_
            rintro e X' ⟨rfl, rfl⟩
            refine ⟨_, rfl, ?_⟩
            refine hK.out _ _ hSS (fun hHeld => ?_)
            clear hK K
            try simp only [List.getElem_toArray, List.getElem_cons_succ, List.getElem_cons_zero, Act.put, List.setIfInBounds_toArray, List.set_cons_zero, List.set_cons_succ]
            refine wpAnyH_take (i := 35) (v := ?_) rfl (by kernel_rfl) (by kernel_rfl) (by kernel_rfl) (fun _ _ _ h => h) (Or.inl ⟨by kernel_rfl, ?_⟩) (by assumption) ?_
            rotate_left
            · intro w hSw
              try dsimp only at hSw
              go_simp
              try with_reducible rfl
            simp only [List.getElem_toArray, List.getElem_cons_succ, List.getElem_cons_zero, Act.put, List.setIfInBounds_toArray, List.set_cons_zero, List.set_cons_succ]
            refine wpAnyH_take (i := 36) (v := ?_) rfl (by kernel_rfl) (by kernel_rfl) (by kernel_rfl) (fun _ _ _ h => h) (Or.inl ⟨by kernel_rfl, ?_⟩) (by assumption) ?_
            rotate_left
            · intro w hSw
              try dsimp only at hSw
              go_simp
              try with_reducible rfl
            simp only [List.getElem_toArray, List.getElem_cons_succ, List.getElem_cons_zero, Act.put, List.setIfInBounds_toArray, List.set_cons_zero, List.set_cons_succ]
            refine wpAnyH_take (i := 37) (v := ?_) rfl (by kernel_rfl) (by kernel_rfl) (by kernel_rfl) (fun _ _ _ h => h) (Or.inl ⟨by kernel_rfl, ?_⟩) (by assumption) ?_
            rotate_left
            · intro w hSw
              try dsimp only at hSw
              go_simp
              try with_reducible rfl
            simp only [List.getElem_toArray, List.getElem_cons_succ, List.getElem_cons_zero, Act.put, List.setIfInBounds_toArray, List.set_cons_zero, List.set_cons_succ]
            clear hHeld
            refine wpAnyH_done (by kernel_rfl) ?_ _
            go_wp2
            go_ret
            exact ⟨rfl, V.bel⟩
          · skip
            refine wp_region_held_drew (S := (fun w' => w'.cell? ⟨w.heap.size + 1 + 1 + 1 + 1, 5, none⟩ = some (.int .u32 o.off.toNat) ∧ w'.cell? ⟨w.heap.size + 1 + 1 + 1 + 1, 6, none⟩ = some (.int .u32 o.steady.toNat) ∧ w'.cell? ⟨w.heap.size + 1 + 1 + 1 + 1, 7, none⟩ = some (.int .u32 o.flash.toNat) ∧ w'.cell? ⟨w.heap.size + 1 + 1 + 1 + 1, 8, none⟩ = some (.int .u32 o.autos.toNat) ∧ w'.cell? ⟨w.heap.size + 1 + 1 + 1, 6, none⟩ = some (.int .u32 au.toNat))) (by kernel_rfl) ?_ (fun hHeld => ?_)
            · exact ⟨z5, z6, z7, z8, za⟩
            have hSS := hHeld
            replace V := V.later (Below.refl _ wr).drew
            clear z5 z6 z7 z8 za y5
            generalize wr.drew = X at *
            refine wpAnyH_take (i := 0) (v := ?_) rfl (by kernel_rfl) (by kernel_rfl) (by kernel_rfl) (fun _ _ _ h => h) (Or.inl ⟨by kernel_rfl, ?_⟩) (by assumption) ?_
            rotate_left
            · intro w hSw
              try dsimp only at hSw
              go_simp
              try with_reducible rfl
            simp only [List.getElem_toArray, List.getElem_cons_succ, List.getElem_cons_zero, Act.put, List.setIfInBounds_toArray, List.set_cons_zero, List.set_cons_succ]
            refine wpAnyH_take (i := 1) (v := ?_) rfl (by kernel_rfl) (by kernel_rfl) (by kernel_rfl) (fun _ _ _ h => h) (Or.inl ⟨by kernel_rfl, ?_⟩) (by assumption) ?_
            rotate_left
            · intro w hSw
              try dsimp only at hSw
              go_simp
              try with_reducible rfl
            simp only [List.getElem_toArray, List.getElem_cons_succ, List.getElem_cons_zero, Act.put, List.setIfInBounds_toArray, List.set_cons_zero, List.set_cons_succ]
            refine wpAnyH_take (i := 2) (v := ?_) rfl (by kernel_rfl) (by kernel_rfl) (by kernel_rfl) (fun _ _ _ h => h) (Or.inl ⟨by kernel_rfl, ?_⟩) (by assumption) ?_
            rotate_left
            · intro w hSw
              try dsimp only at hSw
              go_simp
              try with_reducible rfl
            simp only [List.getElem_toArray, List.getElem_cons_succ, List.getElem_cons_zero, Act.put, List.setIfInBounds_toArray, List.set_cons_zero, List.set_cons_succ]
            refine wpAnyH_take (i := 4) (v := ?_) rfl (by kernel_rfl) (by kernel_rfl) (by kernel_rfl) (fun _ _ _ h => h) (Or.inl ⟨by kernel_rfl, ?_⟩) (by assumption) ?_
            rotate_left
            · intro w hSw
              try dsimp only at hSw
              go_simp
              try with_reducible rfl
            simp only [List.getElem_toArray, List.getElem_cons_succ, List.getElem_cons_zero, Act.put, List.setIfInBounds_toArray, List.set_cons_zero, List.set_cons_succ]
            clear hHeld
            refine ready1 (i := 3) rfl (by kernel_rfl) (by kernel_rfl) (fun K hK => ?_)
            refine Node.wp_fn 18 [.tmp 69, .tmp 70] _ [.int .u32 o.off.toNat, .int .i64 i] (by rfl) (by kernel_rfl) ent (bit28_c o.off i cb _ hi32 U5.out) ?_
            rintro e X' ⟨rfl, rfl⟩
            refine ⟨_, rfl, ?_⟩
            refine hK.out _ _ hSS (fun hHeld => ?_)
            clear hK K
            try simp only [List.getElem_toArray, List.getElem_cons_succ, List.getElem_cons_zero, Act.put, List.setIfInBounds_toArray, List.set_cons_zero, List.set_cons_succ]
            refine wpAnyH_take (i := 5) (v := ?_) rfl (by kernel_rfl) (by kernel_rfl) (by kernel_rfl) (fun _ _ _ h => h) (Or.inl ⟨by kernel_rfl, ?_⟩) (by assumption) ?_
            rotate_left
            · intro w hSw
              try dsimp only at hSw
              go_simp
              try with_reducible rfl
            simp only [List.getElem_toArray, List.getElem_cons_succ, List.getElem_cons_zero, Act.put, List.setIfInBounds_toArray, List.set_cons_zero, List.set_cons_succ]
            refine wpAnyH_take (i := 6) (v := ?_) rfl (by kernel_rfl) (by kernel_rfl) (by kernel_rfl) (fun _ _ _ h => h) (Or.inl ⟨by kernel_rfl, ?_⟩) (by assumption) ?_
            rotate_left
            · intro w hSw
              try dsimp only at hSw
              go_simp
              try with_reducible rfl
            simp only [List.getElem_toArray, List.getElem_cons_succ, List.getElem_cons_zero, Act.put, List.setIfInBounds_toArray, List.set_cons_zero, List.set_cons_succ]
            refine wpAnyH_take (i := 7) (v := ?_) rfl (by kernel_rfl) (by kernel_rfl) (by kernel_rfl) (fun _ _ _ h => h) (Or.inl ⟨by kernel_rfl, ?_⟩) (by assumption) ?_
            rotate_left
            · intro w hSw
              try dsimp only at hSw
              go_simp
              try with_reducible rfl
            simp only [List.getElem_toArray, List.getElem_cons_succ, List.getElem_cons_zero, Act.put, List.setIfInBounds_toArray, List.set_cons_zero, List.set_cons_succ]
            refine wpAnyH_take (i := 8) (v := ?_) rfl (by kernel_rfl) (by kernel_rfl) (by kernel_rfl) (fun _ _ _ h => h) (Or.inl ⟨by kernel_rfl, ?_⟩) (by assumption) ?_
            rotate_left
            · intro w hSw
              try dsimp only at hSw
              go_simp
              try with_reducible rfl
            simp only [List.getElem_toArray, List.getElem_cons_succ, List.getElem_cons_zero, Act.put, List.setIfInBounds_toArray, List.set_cons_zero, List.set_cons_succ]
            refine wpAnyH_take (i := 9) (v := ?_) rfl (by kernel_rfl) (by kernel_rfl) (by kernel_rfl) (fun _ _ _ h => h) (Or.inl ⟨by kernel_rfl, ?_⟩) (by assumption) ?_
            rotate_left
            · intro w hSw
              try dsimp only at hSw
              go_simp
              try with_reducible rfl
            simp only [List.getElem_toArray, List.getElem_cons_succ, List.getElem_cons_zero, Act.put, List.setIfInBounds_toArray, List.set_cons_zero, List.set_cons_succ]
            refine wpAnyH_take (i := 11) (v := ?_) rfl (by kernel_rfl) (by kernel_rfl) (by kernel_rfl) (fun _ _ _ h => h) (Or.inl ⟨by kernel_rfl, ?_⟩) (by assumption) ?_
            rotate_left
            · intro w hSw
              try dsimp only at hSw
              go_simp
              try with_reducible rfl
            simp only [List.getElem_toArray, List.getElem_cons_succ, List.getElem_cons_zero, Act.put, List.setIfInBounds_toArray, List.set_cons_zero, List.set_cons_succ]
            clear hHeld
            refine ready1 (i := 10) rfl (by kernel_rfl) (by kernel_rfl) (fun K hK => ?_)
            refine Node.wp_fn 18 [.tmp 76, .tmp 77] _ [.int .u32 o.steady.toNat, .int .i64 i] (by rfl) (by kernel_rfl) ent (bit28_c o.steady i hb _ hi32 U6.out) ?_
            rintro e X' ⟨rfl, rfl⟩
            refine ⟨_, rfl, ?_⟩
            refine hK.out _ _ hSS (fun hHeld => ?_)
            clear hK K
            try simp only [List.getElem_toArray, List.getElem_cons_succ, List.getElem_cons_zero, Act.put, List.setIfInBounds_toArray, List.set_cons_zero, List.set_cons_succ]
            refine wpAnyH_take (i := 12) (v := ?_) rfl (by kernel_rfl) (by kernel_rfl) (by kernel_rfl) (fun _ _ _ h => h) (Or.inl ⟨by kernel_rfl, ?_⟩) (by assumption) ?_
            rotate_left
            · intro w hSw
              try dsimp only at hSw
              go_simp
              try with_reducible rfl
            simp only [List.getElem_toArray, List.getElem_cons_succ, List.getElem_cons_zero, Act.put, List.setIfInBounds_toArray, List.set_cons_zero, List.set_cons_succ]
            refine wpAnyH_take (i := 13) (v := ?_) rfl (by kernel_rfl) (by kernel_rfl) (by kernel_rfl) (fun _ _ _ h => h) (Or.inl ⟨by kernel_rfl, ?_⟩) (by assumption) ?_
            rotate_left
            · intro w hSw
              try dsimp only at hSw
              go_simp
              try with_reducible rfl
            simp only [List.getElem_toArray, List.getElem_cons_succ, List.getElem_cons_zero, Act.put, List.setIfInBounds_toArray, List.set_cons_zero, List.set_cons_succ]
            refine wpAnyH_take (i := 14) (v := ?_) rfl (by kernel_rfl) (by kernel_rfl) (by kernel_rfl) (fun _ _ _ h => h) (Or.inl ⟨by kernel_rfl, ?_⟩) (by assumption) ?_
            rotate_left
            · intro w hSw
              try dsimp only at hSw
              go_simp
              try with_reducible rfl
            simp only [List.getElem_toArray, List.getElem_cons_succ, List.getElem_cons_zero, Act.put, List.setIfInBounds_toArray, List.set_cons_zero, List.set_cons_succ]
            refine wpAnyH_take (i := 15) (v := ?_) rfl (by kernel_rfl) (by kernel_rfl) (by kernel_rfl) (fun _ _ _ h => h) (Or.inl ⟨by kernel_rfl, ?_⟩) (by assumption) ?_
            rotate_left
            · intro w hSw
              try dsimp only at hSw
              go_simp
              try with_reducible rfl
            simp only [List.getElem_toArray, List.getElem_cons_succ, List.getElem_cons_zero, Act.put, List.setIfInBounds_toArray, List.set_cons_zero, List.set_cons_succ]
            refine wpAnyH_take (i := 16) (v := ?_) rfl (by kernel_rfl) (by kernel_rfl) (by kernel_rfl) (fun _ _ _ h => h) (Or.inl ⟨by kernel_rfl, ?_⟩) (by assumption) ?_
            rotate_left
            · intro w hSw
              try dsimp only at hSw
              go_simp
              try with_reducible rfl
            simp only [List.getElem_toArray, List.getElem_cons_succ, List.getElem_cons_zero, Act.put, List.setIfInBounds_toArray, List.set_cons_zero, List.set_cons_succ]
            refine wpAnyH_take (i := 17) (v := ?_) rfl (by kernel_rfl) (by kernel_rfl) (by kernel_rfl) (fun _ _ _ h => h) (Or.inl ⟨by kernel_rfl, ?_⟩) (by assumption) ?_
            rotate_left
            · intro w hSw
              try dsimp only at hSw
              go_simp
              try with_reducible rfl
            simp only [List.getElem_toArray, List.getElem_cons_succ, List.getElem_cons_zero, Act.put, List.setIfInBounds_toArray, List.set_cons_zero, List.set_cons_succ]
            refine wpAnyH_take (i := 19) (v := ?_) rfl (by kernel_rfl) (by kernel_rfl) (by kernel_rfl) (fun _ _ _ h => h) (Or.inl ⟨by kernel_rfl, ?_⟩) (by assumption) ?_
            rotate_left
            · intro w hSw
              try dsimp only at hSw
              go_simp
              try with_reducible rfl
            simp only [List.getElem_toArray, List.getElem_cons_succ, List.getElem_cons_zero, Act.put, List.setIfInBounds_toArray, List.set_cons_zero, List.set_cons_succ]
            clear hHeld
            refine ready1 (i := 18) rfl (by kernel_rfl) (by kernel_rfl) (fun K hK => ?_)
            refine Node.wp_fn 18 [.tmp 84, .tmp 85] _ [.int .u32 o.flash.toNat, .int .i64 i] (by rfl) (by kernel_rfl) ent (bit28_c o.flash i (!hb) _ hi32 ((Bool.true_and _).symm.trans U7.out)) ?_
            rintro e X' ⟨rfl, rfl⟩
            refine ⟨_, rfl, ?_⟩
            refine hK.out _ _ hSS (fun hHeld => ?_)
            clear hK K
            try simp only [List.getElem_toArray, List.getElem_cons_succ, List.getElem_cons_zero, Act.put, List.setIfInBounds_toArray, List.set_cons_zero, List.set_cons_succ]
            refine wpAnyH_take (i := 20) (v := ?_) rfl (by kernel_rfl) (by kernel_rfl) (by kernel_rfl) (fun _ _ _ h => h) (Or.inl ⟨by kernel_rfl, ?_⟩) (by assumption) ?_
            rotate_left
            · intro w hSw
              try dsimp only at hSw
              go_simp
              try with_reducible rfl
            simp only [List.getElem_toArray, List.getElem_cons_succ, List.getElem_cons_zero, Act.put, List.setIfInBounds_toArray, List.set_cons_zero, List.set_cons_succ]
            refine wpAnyH_take (i := 21) (v := ?_) rfl (by kernel_rfl) (by kernel_rfl) (by kernel_rfl) (fun _ _ _ h => h) (Or.inl ⟨by kernel_rfl, ?_⟩) (by assumption) ?_
            rotate_left
            · intro w hSw
              try dsimp only at hSw
              go_simp
              try with_reducible rfl
            simp only [List.getElem_toArray, List.getElem_cons_succ, List.getElem_cons_zero, Act.put, List.setIfInBounds_toArray, List.set_cons_zero, List.set_cons_succ]
            refine wpAnyH_take (i := 22) (v := ?_) rfl (by kernel_rfl) (by kernel_rfl) (by kernel_rfl) (fun _ _ _ h => h) (Or.inl ⟨by kernel_rfl, ?_⟩) (by assumption) ?_
            rotate_left
            · intro w hSw
              try dsimp only at hSw
              go_simp
              try with_reducible rfl
            simp only [List.getElem_toArray, List.getElem_cons_succ, List.getElem_cons_zero, Act.put, List.setIfInBounds_toArray, List.set_cons_zero, List.set_cons_succ]
            refine wpAnyH_take (i := 23) (v := ?_) rfl (by kernel_rfl) (by kernel_rfl) (by kernel_rfl) (fun _ _ _ h => h) (Or.inl ⟨by kernel_rfl, ?_⟩) (by assumption) ?_
            rotate_left
            · intro w hSw
              try dsimp only at hSw
              go_simp
              try with_reducible rfl
            simp only [List.getElem_toArray, List.getElem_cons_succ, List.getElem_cons_zero, Act.put, List.setIfInBounds_toArray, List.set_cons_zero, List.set_cons_succ]
            refine wpAnyH_take (i := 24) (v := ?_) rfl (by kernel_rfl) (by kernel_rfl) (by kernel_rfl) (fun _ _ _ h => h) (Or.inl ⟨by kernel_rfl, ?_⟩) (by assumption) ?_
            rotate_left
            · intro w hSw
              try dsimp only at hSw
              go_simp
              try with_reducible rfl
            simp only [List.getElem_toArray, List.getElem_cons_succ, List.getElem_cons_zero, Act.put, List.setIfInBounds_toArray, List.set_cons_zero, List.set_cons_succ]
            refine wpAnyH_take (i := 25) (v := ?_) rfl (by kernel_rfl) (by kernel_rfl) (by kernel_rfl) (fun _ _ _ h => h) (Or.inl ⟨by kernel_rfl, ?_⟩) (by assumption) ?_
            rotate_left
            · intro w hSw
              try dsimp only at hSw
              go_simp
              try with_reducible rfl
            simp only [List.getElem_toArray, List.getElem_cons_succ, List.getElem_cons_zero, Act.put, List.setIfInBounds_toArray, List.set_cons_zero, List.set_cons_succ]
            refine wpAnyH_take (i := 26) (v := ?_) rfl (by kernel_rfl) (by kernel_rfl) (by kernel_rfl) (fun _ _ _ h => h) (Or.inl ⟨by kernel_rfl, ?_⟩) (by assumption) ?_
            rotate_left
            · intro w hSw
              try dsimp only at hSw
              go_simp
              try with_reducible rfl
            simp only [List.getElem_toArray, List.getElem_cons_succ, List.getElem_cons_zero, Act.put, List.setIfInBounds_toArray, List.set_cons_zero, List.set_cons_succ]
            refine wpAnyH_take (i := 27) (v := ?_) rfl (by kernel_rfl) (by kernel_rfl) (by kernel_rfl) (fun _ _ _ h => h) (Or.inl ⟨by kernel_rfl, ?_⟩) (by assumption) ?_
            rotate_left
            · intro w hSw
              try dsimp only at hSw
              go_simp
              try with_reducible rfl
            simp only [List.getElem_toArray, List.getElem_cons_succ, List.getElem_cons_zero, Act.put, List.setIfInBounds_toArray, List.set_cons_zero, List.set_cons_succ]
            refine wpAnyH_take (i := 28) (v := ?_) rfl (by kernel_rfl) (by kernel_rfl) (by kernel_rfl) (fun _ _ _ h => h) (Or.inl ⟨by kernel_rfl, ?_⟩) (by assumption) ?_
            rotate_left
            · intro w hSw
              try dsimp only at hSw
              go_simp
              try with_reducible rfl
            simp only [List.getElem_toArray, List.getElem_cons_succ, List.getElem_cons_zero, Act.put, List.setIfInBounds_toArray, List.set_cons_zero, List.set_cons_succ]
            refine wpAnyH_take (i := 29) (v := ?_) rfl (by kernel_rfl) (by kernel_rfl) (by kernel_rfl) (fun _ _ _ h => h) (Or.inl ⟨by kernel_rfl, ?_⟩) (by assumption) ?_
            rotate_left
            · intro w hSw
              try dsimp only at hSw
              go_simp
              try with_reducible rfl
            simp only [List.getElem_toArray, List.getElem_cons_succ, List.getElem_cons_zero, Act.put, List.setIfInBounds_toArray, List.set_cons_zero, List.set_cons_succ]
            refine wpAnyH_take (i := 31) (v := ?_) rfl (by kernel_rfl) (by kernel_rfl) (by kernel_rfl) (fun _ _ _ h => h) (Or.inl ⟨by kernel_rfl, ?_⟩) (by assumption) ?_
            rotate_left
            · intro w hSw
              try dsimp only at hSw
              go_simp
              try with_reducible rfl
            simp only [List.getElem_toArray, List.getElem_cons_succ, List.getElem_cons_zero, Act.put, List.setIfInBounds_toArray, List.set_cons_zero, List.set_cons_succ]
            refine wpAnyH_take (i := 32) (v := ?_) rfl (by kernel_rfl) (by kernel_rfl) (by kernel_rfl) (fun _ _ _ h => h) (Or.inl ⟨by kernel_rfl, ?_⟩) (by assumption) ?_
            rotate_left
            · intro w hSw
              try dsimp only at hSw
              go_simp
              try with_reducible rfl
            simp only [List.getElem_toArray, List.getElem_cons_succ, List.getElem_cons_zero, Act.put, List.setIfInBounds_toArray, List.set_cons_zero, List.set_cons_succ]
            refine wpAnyH_take (i := 33) (v := ?_) rfl (by kernel_rfl) (by kernel_rfl) (by kernel_rfl) (fun _ _ _ h => h) (Or.inl ⟨by kernel_rfl, ?_⟩) (by assumption) ?_
            rotate_left
            · intro w hSw
              try dsimp only at hSw
              go_simp
              try with_reducible rfl
            simp only [List.getElem_toArray, List.getElem_cons_succ, List.getElem_cons_zero, Act.put, List.setIfInBounds_toArray, List.set_cons_zero, List.set_cons_succ]
            clear hHeld
            obtain ⟨ab, hab⟩ : ∃ b, au.getLsbD i = b := ⟨_, rfl⟩
            refine ready1 (i := 30) rfl (by kernel_rfl) (by kernel_rfl) (fun K hK => ?_)
            refine Node.wp_fn 18 [.tmp 96, .tmp 97] _ [.int .u32 o.autos.toNat, .int .i64 i] (by rfl) (by kernel_rfl) ent (bit28_c o.autos i ab _ hi32 (hab.symm.trans U8.out.symm)) ?_
            rintro e X' ⟨rfl, rfl⟩
            refine ⟨_, rfl, ?_⟩
            refine hK.out _ _ hSS (fun hHeld => ?_)
            clear hK K
            try simp only [List.getElem_toArray, List.getElem_cons_succ, List.getElem_cons_zero, Act.put, List.setIfInBounds_toArray, List.set_cons_zero, List.set_cons_succ]
            clear hHeld
            refine ready1 (i := 34) rfl (by kernel_rfl) (by kernel_rfl) (fun K hK => ?_)
            refine Node.wp_fn 18 [.tmp 100, .tmp 101] _ [.int .u32 au.toNat, .int .i64 i] (by rfl) (by kernel_rfl) ent (bit28_c au i ab _ hi32 hab.symm) ?_
            rintro e X' ⟨rfl, rfl⟩
            refine ⟨_, rfl, ?_⟩
            refine hK.out _ _ hSS (fun hHeld => ?_)
            clear hK K
            try simp only [List.getElem_toArray, List.getElem_cons_succ, List.getElem_cons_zero, Act.put, List.setIfInBounds_toArray, List.set_cons_zero, List.set_cons_succ]
            refine wpAnyH_take (i := 35) (v := ?_) rfl (by kernel_rfl) (by kernel_rfl) (by kernel_rfl) (fun _ _ _ h => h) (Or.inl ⟨by kernel_rfl, ?_⟩) (by assumption) ?_
            rotate_left
            · intro w hSw
              try dsimp only at hSw
              go_simp
              try with_reducible rfl
            simp only [List.getElem_toArray, List.getElem_cons_succ, List.getElem_cons_zero, Act.put, List.setIfInBounds_toArray, List.set_cons_zero, List.set_cons_succ]
            refine wpAnyH_take (i := 36) (v := ?_) rfl (by kernel_rfl) (by kernel_rfl) (by kernel_rfl) (fun _ _ _ h => h) (Or.inl ⟨by kernel_rfl, ?_⟩) (by assumption) ?_
            rotate_left
            · intro w hSw
              try dsimp only at hSw
              go_simp
              try with_reducible rfl
            simp only [List.getElem_toArray, List.getElem_cons_succ, List.getElem_cons_zero, Act.put, List.setIfInBounds_toArray, List.set_cons_zero, List.set_cons_succ]
            refine wpAnyH_take (i := 37) (v := ?_) rfl (by kernel_rfl) (by kernel_rfl) (by kernel_rfl) (fun _ _ _ h => h) (Or.inl ⟨by kernel_rfl, ?_⟩) (by assumption) ?_
            rotate_left
            · intro w hSw
              try dsimp only at hSw
              go_simp
              try with_reducible rfl
            simp only [List.getElem_toArray, List.getElem_cons_succ, List.getElem_cons_zero, Act.put, List.setIfInBounds_toArray, List.set_cons_zero, List.set_cons_succ]
            clear hHeld
            refine wpAnyH_done (by kernel_rfl) ?_ _
            go_wp2
            go_ret
            exact ⟨rfl, V.bel⟩
end Go.Proofs.YtbeijbhgpddbmaaGreat
