/- The iterator of a number's bits. -/
import Derived.Test.YtioggdiicgfoaaaBitsE
import Derived.BigFrameIn
namespace Go.Proofs.Ytioggdiicgfoaaa
open Go.RowKit Rf Mem Bv Bits Str
attribute [local go_sem ↓] run_max2 run_min2
attribute [local go_sem] Oper.semAt_some
def boolList (l : List Bool) : List (Array Value) := l.map fun b => #[.bool b]
def HighPre (bw bn n w : Nat) (W : World) : Prop :=
  W.heap[bw]? = some (.cells #[.int .i64 (w : Int)] 3 (0, 0)) ∧ W.cell? ⟨bn, 0, none⟩ = some (.int .i64 (n : Int)) ∧ bn < W.heap.size
theorem boolList_get {n w k : Nat} (h : k < w) : (boolList (numBits n w))[k]? = some #[.bool (n.testBit (w - 1 - k))] := by
  simp [boolList, numBits, h]
theorem bit_gt (n m : Nat) : decide (0 < Go.bits .and .i64 ((n : Int) / 2 ^ m) 1) = n.testBit m := by
  rw [mask1, show ((n : Int) / 2 ^ m) = ((n / 2 ^ m : Nat) : Int) by norm_cast, Nat.testBit_eq_decide_div_mod_eq]
  rcases Nat.mod_two_eq_zero_or_one (n / 2 ^ m) with e | e
  · rw [decide_eq_false (by omega), decide_eq_false (by omega)]
  · rw [decide_eq_true (by omega), decide_eq_true e]
set_option maxHeartbeats 1000000 in
theorem high1 (bw bn n w : Nat) (hw : w ≤ 32) (hn : n < 2 ^ 62) (hne : bw ≠ bn) : Iter Try.prog 53 #[.pointer (some ⟨bw, 0, none⟩), .pointer (some ⟨bn, 0, none⟩)] (fun k => k = bw) (fun k => k = bn) (boolList (numBits n w)) (HighPre bw bn n w) := by
  intro l J O0 W0 hP hO hJ hY h0
  obtain ⟨hb, hcn, hns⟩ := hP
  have hbs : bw < W0.heap.size := (Array.getElem?_eq_some_iff.1 hb).1
  refine callsIn_of_wp Try.func53 rfl trivial ?_ rfl
  simp only [Try.ntmps53, List.size_toArray, List.length_cons, List.length_nil, Nat.reduceAdd, Nat.reduceSub, Array.replicate_succ, Array.replicate_zero, List.push_toArray, List.append_toArray, List.nil_append, List.cons_append]
  gi_wp2
  gi_loopw [4] (fun _ wr => ∃ (k : Nat) (O : Nat → Prop), k ≤ w ∧ wr.heap[bw]? = some (.cells #[.int .i64 ((w - k : Nat) : Int)] 3 (0, 0)) ∧ wr.cell? ⟨bn, 0, none⟩ = some (.int .i64 (n : Int)) ∧ J k O wr ∧ W0.heap.size ≤ wr.heap.size ∧ ∀ q, q < W0.heap.size → O q → O0 q) (fun _ wr => match wr.cell? ⟨bw, 0, none⟩ with | some (.int _ z) => z.toNat | _ => 0)
  case atStart => exact ⟨0, O0, Nat.zero_le _, hb, hcn, h0, Nat.le_refl _, fun _ _ h => h⟩
  case round =>
    obtain ⟨k, O, hk, hbk, hnk, hJk, hsz, hOO⟩ := hrel
    by_cases hlt : k < w
    · obtain ⟨m, hm⟩ : ∃ m, w - k = m + 1 := ⟨w - k - 1, by omega⟩
      have hget := boolList_get (n := n) hlt
      rw [show w - 1 - k = m by omega] at hget
      have hbO : ¬ O bw := fun h => (hO _ (hOO bw hbs h)).2.1 rfl
      have hnO : ¬ O bn := fun h => (hO _ (hOO bn hns h)).2.2 rfl
      rw [hm] at hbk
      have cw : wr.cell? ⟨bw, 0, none⟩ = some (.int .i64 ((m : Int) + 1)) := (cell_at hbk 0).trans (by simp)
      have fw := free_at hbk 0
      have hb1 : (wr.setCell ⟨bw, 0, none⟩ (.int .i64 (m : Int))).heap[bw]? = some (.cells #[.int .i64 (m : Int)] 3 (0, 0)) := by rw [set_at hbk 0]; simp
      have hn1 : (wr.setCell ⟨bw, 0, none⟩ (.int .i64 (m : Int))).cell? ⟨bn, 0, none⟩ = some (.int .i64 (n : Int)) := (World.cell?_of_block (Below.heap_setCell wr _ _ bn (fun e => hne e.symm))).trans hnk
      have hs1 : (wr.setCell ⟨bw, 0, none⟩ (.int .i64 (m : Int))).heap.size = wr.heap.size := by simp [World.setCell]
      have hJ1 : J k O (wr.setCell ⟨bw, 0, none⟩ (.int .i64 (m : Int))) := hJ k O wr _ hJk ((Keep.refl _ wr).setCell (fun _ h => by rcases h with h | h; exact hbO h; exact h.2 rfl) _)
      obtain ⟨fn, tmps, assign, body, hy, hR⟩ := hY k _ O _ hget hJ1 (by rw [hs1]; exact hsz)
      have hbit := bit_gt n m
      have hm1 : ((m : Int) < 64) := by omega
      have hms : w - (k + 1) = m := by omega
      have HM := Lib.hid hms
      have HK := Lib.hid hm
      clear hget hms hm hJ1
      generalize n.testBit m = tb at *
      gi_wp2
      refine ⟨rfl, hR.mono ?_⟩
      rintro e W' ⟨rfl, O', hJ', ho', hk'⟩
      clear hy hR
      have hb2 := hk'.at_ hb1 hbO
      have hn2 : W'.cell? ⟨bn, 0, none⟩ = some (.int .i64 (n : Int)) := (World.cell?_of_block (hk'.block bn (by rw [hs1]; omega) hnO)).trans hn1
      have hs2 : W0.heap.size ≤ W'.heap.size := by have := hk'.size; rw [hs1] at this; omega
      have hOO' : ∀ q, q < W0.heap.size → O' q → O0 q := fun q hq h => by
        rcases ho' q h with h | h
        · exact hOO q hq h
        · rw [hs1] at h; omega
      have cw2 : W'.cell? ⟨bw, 0, none⟩ = some (.int .i64 (m : Int)) := (cell_at hb2 0).trans (by simp)
      gi_wp2
      go_roundw
      case rel => exact ⟨k + 1, O', by omega, by rw [HM.out]; exact hb2, hn2, hJ', hs2, hOO'⟩
      case measure => simp [cw2, cw]
    · obtain rfl : k = w := by omega
      have cw : wr.cell? ⟨bw, 0, none⟩ = some (.int .i64 0) := (cell_at hbk 0).trans (by simp)
      have hl : (boolList (numBits n k)).length = k := by simp [boolList, numBits]
      have HL := Lib.hid hl
      clear hl
      gi_wp2
      go_end0
      exact ⟨⟨_, rfl⟩, O, by rw [HL.out]; exact hJk⟩
end Go.Proofs.Ytioggdiicgfoaaa
