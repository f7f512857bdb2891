/- Layouts: the contract of Great. Nothing that was there is turned. -/
import Derived.Test.YtlcahkkpbikccaaDoorImgM
namespace Go.Proofs.YtlcahkkpbikccaaDoor
open Go.RowKit Rf Mem
attribute [local go_sem ↓] run_max2 run_min2
/-- a slice of exits reads; the lengths of their overlaps -/
def ExsAt (W : World) (v : Value) (lens : List Nat) : Prop :=
  ∃ A c, v = .slice A lens.length c ∧ lens.length ≤ c ∧ c ≤ maxLen ∧ (lens.length = 0 ∨ ∃ b off, A = some ⟨b, off, none⟩ ∧ b < W.heap.size ∧ ∀ (k n : Nat), lens[k]? = some n → ∃ A' c', W.cell? ⟨b, off + k * 3 + 2, none⟩ = some (.slice A' n c'))
theorem ExsAt.later {W W' : World} {v : Value} {lens : List Nat} (h : ExsAt W v lens) (hb : Below W.heap.size W W') : ExsAt W' v lens := by
  obtain ⟨A, c, rfl, h1, h2, h3⟩ := h
  refine ⟨A, c, rfl, h1, h2, h3.imp id ?_⟩
  rintro ⟨b, off, rfl, hlt, hc⟩
  exact ⟨b, off, rfl, Nat.lt_of_lt_of_le hlt hb.size, fun k n hk => by obtain ⟨A', c', h⟩ := hc k n hk; exact ⟨A', c', (hb.cell (p := ⟨b, off + k * 3 + 2, none⟩) hlt).trans h⟩⟩
/-- is a layout too great to be asked? -/
def greatV (ns nsig nfl : Nat) (lens : List Nat) : Bool :=
  (lens.take 21).any (fun n => decide (20 < n)) || (decide (30 < ns) || (decide (20 < nsig) || (decide (20 < lens.length) || decide (30 < nfl))))
set_option maxHeartbeats 1000000 in
set_option maxRecDepth 100000 in
theorem Great_c (L : List Value) (ns nsig nfl : Nat) (lens : List Nat) (A A1 A3 : Option Addr) (c c1 c3 : Nat) (v : Value) (w : World) (h0 : L[0]? = some (.slice A ns c)) (h1 : L[1]? = some (.slice A1 nsig c1)) (h2 : L[2]? = some v) (h3 : L[3]? = some (.slice A3 nfl c3)) (hE : ExsAt w v lens) :
    Calls Tryd.prog 5 #[.agg L.toArray] w fun e w' => e = .returned (.bool (greatV ns nsig nfl lens)) ∧ Below w.heap.size w w' := by
  have b0 := below_new w (.cells L.toArray 29)
  have G0 : (w.alloc (.cells L.toArray 29)).heap[w.heap.size]? = some (.cells L.toArray 29 (0, 0)) := new_at rfl _
  have hE' := hE.later b0
  obtain ⟨Ae, ce, rfl, hce, _, hcase⟩ := hE'
  have x0 := cell_list G0 h0
  have x1 := cell_list G0 h1
  have x2 := cell_list G0 h2
  have x3 := cell_list G0 h3
  obtain ⟨r, hr⟩ : ∃ r, greatV ns nsig nfl lens = r := ⟨_, rfl⟩
  rw [hr]
  have HR := Lib.hid hr
  clear hr hE
  go_enter Tryd.func5, Tryd.ntmps5
  go_wp2
  generalize w.alloc (.cells L.toArray 29) = W0 at *
  go_loopw [3] (fun i wr => ∃ k : Nat, k ≤ lens.length ∧ k ≤ 21 ∧ i = .int .i64 k ∧ wr = W0 ∧ Hid ((lens.take k).any (fun n => decide (20 < n)) = false)) (fun i _ => 21 - (intOf i).toNat)
  case atStart => exact ⟨0, Nat.zero_le _, by omega, rfl, rfl, Lib.hid rfl⟩
  case round =>
    obtain ⟨k, hk, hk2, rfl, rfl, HK⟩ := hrel
    by_cases hlt : k < lens.length ∧ k ≤ 20
    · obtain ⟨hl1, hl2⟩ := hlt
      obtain ⟨be, oe, rfl, hbe, hcells⟩ := hcase.resolve_left (by omega)
      obtain ⟨n, hn⟩ : ∃ n, lens[k]? = some n := ⟨_, List.getElem?_eq_getElem hl1⟩
      obtain ⟨An, cn, xn⟩ := hcells k n hn
      have HN := Lib.hid hn
      have i1 : (k : Int) < (lens.length : Int) := by omega
      have q1 : decide (k < lens.length) = true := decide_eq_true hl1
      have q2 : decide ((k : Int) ≤ 20) = true := decide_eq_true (by omega)
      by_cases hg : 20 < n
      · have q3 : decide ((20 : Int) < (n : Int)) = true := decide_eq_true (by omega)
        have HG := Lib.hid hg
        clear hn hcells hg
        go_wp2
        go_ret
        refine ⟨?_, b0⟩
        have : (lens.take 21).any (fun n => decide (20 < n)) = true := by
          rw [List.any_eq_true]
          exact ⟨n, List.mem_of_getElem? (i := k) (by rw [List.getElem?_take, if_pos (by omega)]; exact HN.out), decide_eq_true HG.out⟩
        rw [← HR.out]; unfold greatV; rw [this]; rfl
      · have q3 : decide ((20 : Int) < (n : Int)) = false := decide_eq_false (by omega)
        have HG := Lib.hid (decide_eq_false hg)
        clear hn hcells hg
        go_wp2
        go_roundw
        case rel => exact ⟨k + 1, by omega, by omega, by go_num, trivial, Lib.hid (by rw [List.take_add_one, HN.out, List.any_append, HK.out]; simp [HG.out])⟩
        case measure => simp [intOf]; omega
    · have hfin : (lens.take 21).any (fun n => decide (20 < n)) = false := by
        have := HK.out
        rcases Nat.lt_or_ge k 21 with h | h
        · have e : k = lens.length := by omega
          rw [List.take_of_length_le (by omega)] at this
          rw [List.take_of_length_le (by omega)]; exact this
        · have e : k = 21 := by omega
          rwa [e] at this
      have hrb : r = (decide (30 < ns) || (decide (20 < nsig) || (decide (20 < lens.length) || decide (30 < nfl)))) := by rw [← HR.out]; unfold greatV; rw [hfin]; rfl
      have HRB := Lib.hid hrb
      have e1 : decide ((30 : Int) < (ns : Int)) = decide (30 < ns) := by rw [Bool.eq_iff_iff]; simp; omega
      have e2 : decide ((20 : Int) < (nsig : Int)) = decide (20 < nsig) := by rw [Bool.eq_iff_iff]; simp; omega
      have e3 : decide ((20 : Int) < (lens.length : Int)) = decide (20 < lens.length) := by rw [Bool.eq_iff_iff]; simp; omega
      have e4 : decide ((30 : Int) < (nfl : Int)) = decide (30 < nfl) := by rw [Bool.eq_iff_iff]; simp; omega
      have hq : (decide (k < lens.length) = false) ∨ (decide (k < lens.length) = true ∧ decide ((k : Int) ≤ 20) = false) := by
        by_cases h : k < lens.length
        · exact .inr ⟨decide_eq_true h, decide_eq_false (by omega)⟩
        · exact .inl (decide_eq_false h)
      clear hfin hrb
      generalize decide (30 < ns) = p1 at *
      generalize decide (20 < nsig) = p2 at *
      generalize decide (20 < lens.length) = p3 at *
      generalize decide (30 < nfl) = p4 at *
      rcases hq with t1 | ⟨t1, t2⟩
      all_goals
        cases p1 <;> cases p2 <;> cases p3 <;> cases p4
      all_goals
        go_wp2
        go_ret
        exact ⟨by rw [HRB.out]; rfl, b0⟩
end Go.Proofs.YtlcahkkpbikccaaDoor
