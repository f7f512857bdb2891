/- Layouts by how many rows they have: opening an argument; the contract of Great. Nothing that was there is turned. -/
import Derived.Test.YtioggdiicgfoaaaProg
import Derived.Test.YtioggdiicgfoaaaMem
import Derived.Test.YtioggdiicgfoaaaBv
import Derived.Test.YtioggdiicgfoaaaArg
import Derived.WalkSpells
import Derived.Outline
import Derived.BigQuiet
import Derived.Deep.RegionHeld3
import Derived.Deep.MidRow
import Derived.Deep.Cut
import Derived.StillTailTactics
namespace Go.Proofs.Ytioggdiicgfoaaa
open Go.RowKit Rf Mem Go.ChangeShapes Go.WideShapes Bv
attribute [local go_sem ↓] run_max2 run_min2
theorem kbelow_new (W : World) (o : Obj) : Below W.heap.size W (W.alloc o) := (Below.refl _ W).alloc (Nat.le_refl _) _
theorem cell_list {w : World} {g : Nat} {t : TypeId} {cs : List Value} {f : Nat × Nat} (h : w.heap[g]? = some (.cells cs.toArray t f)) {i : Nat} {v : Value} (hv : cs[i]? = some v) : w.cell? ⟨g, i, none⟩ = some v := by
  rw [cell_at h]; simpa using hv
theorem range_of {W : World} {g : Nat} {cs : List Value} {t : TypeId} {f : Nat × Nat} (h : W.heap[g]? = some (.cells cs.toArray t f)) : W.rangeAt g 0 cs := fun j v hv => by rw [Nat.zero_add]; exact cell_list h hv
/-- a slice of exits reads; the lengths of their overlaps -/
def ExsAt (W : World) (v : Value) (lens : List Nat) : Prop :=
  ∃ A c, v = .slice A lens.length c ∧ lens.length ≤ c ∧ c ≤ maxLen ∧ (lens.length = 0 ∨ ∃ b off, A = some ⟨b, off, none⟩ ∧ b < W.heap.size ∧ ∀ (k n : Nat), lens[k]? = some n → ∃ A' c', W.cell? ⟨b, off + k * 3 + 2, none⟩ = some (.slice A' n c'))
theorem ExsAt.later {W W' : World} {v : Value} {lens : List Nat} (h : ExsAt W v lens) (hb : Below W.heap.size W W') : ExsAt W' v lens := by
  obtain ⟨A, c, rfl, h1, h2, h3⟩ := h
  refine ⟨A, c, rfl, h1, h2, h3.imp id ?_⟩
  rintro ⟨b, off, rfl, hlt, hc⟩
  exact ⟨b, off, rfl, Nat.lt_of_lt_of_le hlt hb.size, fun k n hk => by obtain ⟨A', c', h⟩ := hc k n hk; exact ⟨A', c', (hb.cell (p := ⟨b, off + k * 3 + 2, none⟩) hlt).trans h⟩⟩
/-- is a layout too great to be asked? -/
def greatV (ns nsig nfl : Nat) (lens : List Nat) : Bool :=
  (lens.take 31).any (fun n => decide (20 < n)) || (decide (40 < ns) || (decide (30 < nsig) || (decide (30 < lens.length) || decide (40 < nfl))))
set_option maxHeartbeats 1000000 in
set_option maxRecDepth 100000 in
theorem Great_c (L : List Value) (ns nsig nfl : Nat) (lens : List Nat) (A A1 A3 : Option Addr) (c c1 c3 : Nat) (v : Value) (w : World) (h0 : L[0]? = some (.slice A ns c)) (h1 : L[1]? = some (.slice A1 nsig c1)) (h2 : L[2]? = some v) (h3 : L[3]? = some (.slice A3 nfl c3)) (hE : ExsAt w v lens) :
    Calls Try.prog 4 #[.agg L.toArray] w fun e w' => e = .returned (.bool (greatV ns nsig nfl lens)) ∧ Below w.heap.size w w' := by
  have b0 := kbelow_new w (.cells L.toArray 29)
  have G0 : (w.alloc (.cells L.toArray 29)).heap[w.heap.size]? = some (.cells L.toArray 29 (0, 0)) := new_at rfl _
  have hE' := hE.later b0
  obtain ⟨Ae, ce, rfl, hce, _, hcase⟩ := hE'
  have x0 := cell_list G0 h0
  have x1 := cell_list G0 h1
  have x2 := cell_list G0 h2
  have x3 := cell_list G0 h3
  obtain ⟨r, hr⟩ : ∃ r, greatV ns nsig nfl lens = r := ⟨_, rfl⟩
  rw [hr]
  have HR := Lib.hid hr
  clear hr hE
  go_enter Try.func4, Try.ntmps4
  go_wp2
  generalize w.alloc (.cells L.toArray 29) = W0 at *
  go_loopw [3] (fun i wr => ∃ k : Nat, k ≤ lens.length ∧ k ≤ 31 ∧ i = .int .i64 k ∧ wr = W0 ∧ Hid ((lens.take k).any (fun n => decide (20 < n)) = false)) (fun i _ => 31 - (intOf i).toNat)
  case atStart => exact ⟨0, Nat.zero_le _, by omega, rfl, rfl, Lib.hid rfl⟩
  case round =>
    obtain ⟨k, hk, hk2, rfl, rfl, HK⟩ := hrel
    by_cases hlt : k < lens.length ∧ k ≤ 30
    · obtain ⟨hl1, hl2⟩ := hlt
      obtain ⟨be, oe, rfl, hbe, hcells⟩ := hcase.resolve_left (by omega)
      obtain ⟨n, hn⟩ : ∃ n, lens[k]? = some n := ⟨_, List.getElem?_eq_getElem hl1⟩
      obtain ⟨An, cn, xn⟩ := hcells k n hn
      have HN := Lib.hid hn
      have i1 : (k : Int) < (lens.length : Int) := by omega
      have q1 : decide (k < lens.length) = true := decide_eq_true hl1
      have q2 : decide ((k : Int) ≤ 30) = true := decide_eq_true (by omega)
      by_cases hg : 20 < n
      · have q3 : decide ((20 : Int) < (n : Int)) = true := decide_eq_true (by omega)
        have HG := Lib.hid hg
        clear hn hcells hg
        go_wp2
        go_ret
        refine ⟨?_, b0⟩
        have : (lens.take 31).any (fun n => decide (20 < n)) = true := by
          rw [List.any_eq_true]
          exact ⟨n, List.mem_of_getElem? (i := k) (by rw [List.getElem?_take, if_pos (by omega)]; exact HN.out), decide_eq_true HG.out⟩
        rw [← HR.out]; unfold greatV; rw [this]; rfl
      · have q3 : decide ((20 : Int) < (n : Int)) = false := decide_eq_false (by omega)
        have HG := Lib.hid (decide_eq_false hg)
        clear hn hcells hg
        go_wp2
        go_roundw
        case rel => exact ⟨k + 1, by omega, by omega, by go_num, trivial, Lib.hid (by rw [List.take_add_one, HN.out, List.any_append, HK.out]; simp [HG.out])⟩
        case measure => simp [intOf]; omega
    · have hfin : (lens.take 31).any (fun n => decide (20 < n)) = false := by
        have := HK.out
        rcases Nat.lt_or_ge k 31 with h | h
        · have e : k = lens.length := by omega
          rw [List.take_of_length_le (by omega)] at this
          rw [List.take_of_length_le (by omega)]; exact this
        · have e : k = 31 := by omega
          rwa [e] at this
      have hrb : r = (decide (40 < ns) || (decide (30 < nsig) || (decide (30 < lens.length) || decide (40 < nfl)))) := by rw [← HR.out]; unfold greatV; rw [hfin]; rfl
      have HRB := Lib.hid hrb
      have e1 : decide ((40 : Int) < (ns : Int)) = decide (40 < ns) := by rw [Bool.eq_iff_iff]; simp; omega
      have e2 : decide ((30 : Int) < (nsig : Int)) = decide (30 < nsig) := by rw [Bool.eq_iff_iff]; simp; omega
      have e3 : decide ((30 : Int) < (lens.length : Int)) = decide (30 < lens.length) := by rw [Bool.eq_iff_iff]; simp; omega
      have e4 : decide ((40 : Int) < (nfl : Int)) = decide (40 < nfl) := by rw [Bool.eq_iff_iff]; simp; omega
      have hq : (decide (k < lens.length) = false) ∨ (decide (k < lens.length) = true ∧ decide ((k : Int) ≤ 30) = false) := by
        by_cases h : k < lens.length
        · exact .inr ⟨decide_eq_true h, decide_eq_false (by omega)⟩
        · exact .inl (decide_eq_false h)
      clear hfin hrb
      generalize decide (40 < ns) = p1 at *
      generalize decide (30 < nsig) = p2 at *
      generalize decide (30 < lens.length) = p3 at *
      generalize decide (40 < nfl) = p4 at *
      rcases hq with t1 | ⟨t1, t2⟩
      all_goals
        cases p1 <;> cases p2 <;> cases p3 <;> cases p4
      all_goals
        go_wp2
        go_ret
        exact ⟨by rw [HRB.out]; rfl, b0⟩
section
variable {H : Type} {enc : TypeId × Value → H} {w : World}
/-- the length of an exit's overlap -/
def lenOf (l : List Value) : Nat := match l[2]? with | some (Value.slice _ n _) => n | _ => 0
abbrev Exi := { l : List Value // l.length = 3 }
theorem open_exits {m : Nat} {cs : List Value} {x : DataW H × List MemPlace} (h : DataW.trod enc Try.prog w 0 (fun _ => true) true m 24 cs = some x) :
    ∃ (v : Value) (xs : List Exi), cs = [v] ∧ SliceAt w 3 v xs.length (xs.flatMap (·.1)) ∧ ∀ a ∈ xs, ∃ A c, a.1[2]? = some (.slice A (lenOf a.1) c) := by
  refine open_cs (sz := 3) (fun a : Exi => a.1) (fun a => ∃ A c, a.1[2]? = some (.slice A (lenOf a.1) c)) (fun a => a.2) (by omega) Try.underlying24 (by kernel_rfl) (fun m cs x hl ht => ?_) h
  refine ⟨⟨cs, hl⟩, ?_, rfl⟩
  obtain ⟨ys, n, _, _, _, hlen, hel⟩ := DataW.trod_struct Try.underlying54 ht
  have h0 := hel 1 _ rfl
  obtain ⟨y, hy⟩ : ∃ y, ys[1]? = some y := ⟨_, List.getElem?_eq_getElem (by rw [hlen]; decide)⟩
  obtain ⟨A, l, c, hz⟩ := Joins.slice_form Try.underlying52 (h0.trans hy)
  have hc : Try.prog.cellsOf 52 = 1 := by kernel_rfl
  have h1 : cs[2]? = some (.slice A l c) := by
    have := congrArg (·[0]?) hz
    simp only [hc, List.getElem?_take, List.getElem?_drop] at this
    exact (by simpa using this : _ ∧ _).2
  exact ⟨A, c, by simp only [lenOf, h1]⟩
theorem exits_of {v : Value} {xs : List Exi} (h : SliceAt w 3 v xs.length (xs.flatMap (·.1))) (hk : ∀ a ∈ xs, ∃ A c, a.1[2]? = some (.slice A (lenOf a.1) c)) :
    ExsAt w v (xs.map (fun a : Exi => lenOf a.1)) := by
  obtain ⟨A, c, rfl, h1, h2, h3, h4⟩ := h
  refine ⟨A, c, by simp, by simpa using h1, h2, ?_⟩
  rcases h4 with h4 | ⟨b, off, rfl, hb, hc⟩
  · exact .inl (by simpa using h4)
  · refine .inr ⟨b, off, rfl, hb, fun k n hn => ?_⟩
    rw [List.getElem?_map] at hn
    obtain ⟨a, ha, rfl⟩ := Option.map_eq_some_iff.1 hn
    obtain ⟨A', c', h5⟩ := hk a (List.mem_of_getElem? ha)
    refine ⟨A', c', ?_⟩
    have := hc (k * 3 + 2) _ (by rw [flatMap_get (fun a _ => a.2) k 2 (by omega), ha]; exact h5)
    rwa [← Nat.add_assoc] at this
/-- a layout by how many rows it has -/
structure LayN (w : World) (L : List Value) (ns : Nat) (lens : List Nat) (nsig nfl : Nat) (A : Option Addr) (c : Nat) (A1 : Option Addr) (c1 : Nat) (A3 : Option Addr) (c3 : Nat) (ve : Value) : Prop where
  len : L.length = 11
  sec : L[0]? = some (.slice A ns c)
  sig : L[1]? = some (.slice A1 nsig c1)
  ex : L[2]? = some ve
  fl : L[3]? = some (.slice A3 nfl c3)
  ea : ExsAt w ve lens
theorem LayN.later {w W' : World} {L : List Value} {ns : Nat} {lens : List Nat} {nsig nfl : Nat} {A : Option Addr} {c : Nat} {A1 : Option Addr} {c1 : Nat} {A3 : Option Addr} {c3 : Nat} {ve : Value} (h : LayN w L ns lens nsig nfl A c A1 c1 A3 c3 ve) (b : Below w.heap.size w W') : LayN W' L ns lens nsig nfl A c A1 c1 A3 c3 ve :=
  ⟨h.len, h.sec, h.sig, h.ex, h.fl, h.ea.later b⟩
theorem at_of {cs : List Value} {o : Nat} {u : Value} (h : (cs.drop o).take 1 = [u]) : cs[o]? = some u := by
  have := congrArg (·[0]?) h
  simpa using this
theorem int_at {m o : Nat} {cs : List Value} {y : DataW H × List MemPlace} (h : DataW.trod enc Try.prog w 0 (fun _ => true) true m 3 ((cs.drop o).take (Try.prog.cellsOf 3)) = some y) : ∃ z : Int, cs[o]? = some (.int .i64 z) ∧ (-9223372036854775808 ≤ z ∧ z ≤ 9223372036854775807) := by
  have hc : Try.prog.cellsOf 3 = 1 := by kernel_rfl
  rw [hc] at h
  obtain ⟨z, hz, _, hw⟩ := DataW.trod_int Try.underlying3 h
  exact ⟨z, at_of hz, i64_bounds hw⟩
theorem slice_at {m o t e : Nat} {cs : List Value} {y : DataW H × List MemPlace} (ht : Try.prog.underlying t = some (.slice e)) (hc : Try.prog.cellsOf t = 1) (h : DataW.trod enc Try.prog w 0 (fun _ => true) true m t ((cs.drop o).take (Try.prog.cellsOf t)) = some y) : ∃ A n c, cs[o]? = some (.slice A n c) := by
  rw [hc] at h
  obtain ⟨A, l, c, hz⟩ := Joins.slice_form ht h
  exact ⟨A, l, c, at_of hz⟩
set_option maxRecDepth 100000 in
theorem open_layN {base : Nat} {v : Value} {d : DataW H} {p : List MemPlace} (hv : Value.okWide Try.prog w .any base 29 v) (h : DataW.Trod enc Try.prog w 0 (fun _ => true) true 29 v d p) :
    ∃ (L : List Value) (ns : Nat) (lens : List Nat) (nsig nfl : Nat) (A : Option Addr) (c : Nat) (A1 : Option Addr) (c1 : Nat) (A3 : Option Addr) (c3 : Nat) (ve : Value),
      v = .agg L.toArray ∧ LayN w L ns lens nsig nfl A c A1 c1 A3 c3 ve := by
  obtain ⟨cs, rfl, hsz⟩ := okWide_struct Try.underlying29 hv
  obtain ⟨L⟩ := cs
  obtain ⟨fuel, hf⟩ := h
  simp only [Value.cells] at hf
  have hlen : L.length = 11 := hsz.trans (by kernel_rfl)
  obtain ⟨ys, n, _, _, _, hyl, hel⟩ := DataW.trod_struct Try.underlying29 hf
  have gy : ∀ i, i < 5 → ∃ y, ys[i]? = some y := fun i hi => ⟨_, List.getElem?_eq_getElem (by rw [hyl]; exact hi)⟩
  obtain ⟨y0, e0⟩ := gy 0 (by omega)
  obtain ⟨y1, e1⟩ := gy 1 (by omega)
  obtain ⟨y2, e2⟩ := gy 2 (by omega)
  obtain ⟨y3, e3⟩ := gy 3 (by omega)
  obtain ⟨y4, e4⟩ := gy 4 (by omega)
  obtain ⟨A, ns, c, h0⟩ := slice_at Try.underlying22 (by kernel_rfl) (show DataW.trod enc Try.prog w 0 (fun _ => true) true n 22 ((L.drop 0).take (Try.prog.cellsOf 22)) = some y0 from (hel 0 _ rfl).trans e0)
  obtain ⟨A1, nsig, c1, h1⟩ := slice_at Try.underlying23 (by kernel_rfl) (show DataW.trod enc Try.prog w 0 (fun _ => true) true n 23 ((L.drop 1).take (Try.prog.cellsOf 23)) = some y1 from (hel 1 _ rfl).trans e1)
  obtain ⟨v2, xe, h2, h2s, h2k⟩ := open_exits (show DataW.trod enc Try.prog w 0 (fun _ => true) true n 24 ((L.drop 2).take (Try.prog.cellsOf 24)) = some y2 from (hel 2 _ rfl).trans e2)
  obtain ⟨A3, nfl, c3, h3⟩ := slice_at Try.underlying25 (by kernel_rfl) (show DataW.trod enc Try.prog w 0 (fun _ => true) true n 25 ((L.drop 3).take (Try.prog.cellsOf 25)) = some y3 from (hel 3 _ rfl).trans e3)
  have k2 : Try.prog.cellsOf 24 = 1 := by kernel_rfl
  rw [k2] at h2
  have g2 := at_of h2
  exact ⟨L, ns, _, nsig, nfl, A, c, A1, c1, A3, c3, v2, rfl, ⟨hlen, h0, h1, g2, h3, exits_of h2s h2k⟩⟩
end
end Go.Proofs.Ytioggdiicgfoaaa
