/- Queues of numbers: contracts of slices.Clone, of First (of numbers, of requests) and of the comparison of rows. Nothing that was there is turned. -/
import Derived.Test.YtdniapakoolbjaaRows
import Derived.Test.YtdniapakoolbjaaMem
import Derived.WalkSpells
import Derived.Outline
import Derived.BigQuiet
import Derived.Deep.RegionHeld3
import Derived.StillTailTactics
namespace Go.Proofs.Ytdniapakoolbjaa
open Go.RowKit Rf Mem
attribute [local go_sem ↓] run_max2 run_min2
abbrev nums (zs : List Int) : List Value := ints .i64 zs
theorem info_int : (Try.prog.info? 3).map (fun i => (i.zero, i.size, i.bytes)) = some (some (.int .i64 0), 1, 8) := by kernel_rfl
theorem nums_one (zs : List Int) : ∀ u ∈ nums zs, u.oneCell' = true := by intro u hu; simp [ints] at hu; obtain ⟨b, _, rfl⟩ := hu; rfl
theorem below_new (W : World) (o : Obj) : Below W.heap.size W (W.alloc o) := (Below.refl _ W).alloc (Nat.le_refl _) _
theorem below_drewN {n : Nat} {a w : World} (h : Below n a w) (m : Nat) : Below n a (w.drewN m) := ⟨h.os, h.tape, h.output, h.size, h.block⟩
theorem nums_get {zs : List Int} {k : Nat} (h : k < zs.length) : (nums zs)[k]? = some (.int .i64 (zs[k]'h)) := by simp [ints, List.getElem?_eq_getElem h]
set_option maxHeartbeats 400000 in
theorem Clone_c (v : Value) (zs : List Int) (w : World) (hs : SliceAt w 1 v zs.length (nums zs)) (hl : zs.length ≤ 100000) :
    Calls Try.prog 14 #[v] w fun e w' => ∃ v', e = .returned v' ∧ w'.ownsRow w.heap.size 3 1 v' zs.length (nums zs) ∧ Below w.heap.size w w' := by
  obtain ⟨i0, hi, hz0, hz1, hz2⟩ := info_parts info_int
  have hq := fun (W : World) (a : Option Addr) (n c : Nat) => Lib.run_eql_slice_nil (P := Try.prog) W 24 3 a n c 0 0 Try.underlying24
  have hs' := hs
  obtain ⟨A, c, rfl, hc1, hc2, hc3, hc4⟩ := hs
  cases A with
  | none =>
    have h0 : zs = [] := by
      rcases hc4 with h | ⟨_, _, h, _⟩
      · exact List.eq_nil_of_length_eq_zero h
      · cases h
    subst h0
    go_enter Try.func14, Try.ntmps14
    go_wp2
    go_ret
    exact ⟨_, rfl, own_nil _ _ _ _, Below.refl _ _⟩
  | some ad =>
    have hown := own_empty w 3 1
    have hsrc := hs'.later ((Below.refl _ w).alloc (Nat.le_refl _) (.cells #[] 3))
    go_enter Try.func14, Try.ntmps14
    go_wp2_with (at_builtin; refine wpList_append_src (by rfl) (.tmp 5) (.tmp 6) _ (by rfl) w.heap.size 3 i0 _ 1 8 Try.underlying24 hi hz0 hz1 hz2 rfl (by omega) (.slice (some ⟨w.heap.size, 0, none⟩) 0 0) 0 [] (by rfl) hown (.slice (some ad) zs.length c) zs.length (nums zs) (by rfl) hsrc (nums_one zs) (by simp only [maxLen]; omega) (by omega) (by simp) ?_; intro v1 w1 ho1 hg1 _)
    go_ret
    simp only [Nat.zero_add, List.nil_append] at ho1
    exact ⟨_, rfl, ho1, below_own ((Below.refl _ w).alloc (Nat.le_refl _) _) hg1 (by simp) (by intro g hg; cases hg; exact Nat.le_refl _)⟩
/-- the first one, and whether there is one -/
def firstV (zs : List Int) : Int := zs.headD 0
theorem First_c (v : Value) (zs : List Int) (w : World) (hs : SliceAt w 1 v zs.length (nums zs)) :
    Calls Try.prog 8 #[v] w fun e w' => e = .returned (.tuple #[.int .i64 (firstV zs), .bool (decide (0 < zs.length))]) ∧ w = w' := by
  cases zs with
  | nil =>
    obtain ⟨A, c, rfl, _⟩ := hs.form
    go_enter Try.func8, Try.ntmps8
    go_wp2
    go_ret2
    exact ⟨rfl, rfl⟩
  | cons z zs =>
    obtain ⟨b, o, c, rfl, _, _, hb, hc⟩ := hs.pos (by simp)
    have c0 := hc 0 (.int .i64 z) (by simp [ints])
    rw [Nat.add_zero] at c0
    obtain ⟨n, hn⟩ : ∃ n, (z :: zs).length = n := ⟨_, rfl⟩
    have hn0 : 0 < n := by rw [← hn]; simp
    have q : decide ((0 : Int) < (n : Int)) = true := decide_eq_true (by omega)
    have hd : decide (0 < n) = true := decide_eq_true hn0
    rw [hn, hd]
    clear hs hc hn
    go_enter Try.func8, Try.ntmps8
    go_wp2
    go_ret2
    exact ⟨rfl, rfl⟩
theorem Ints_c (v u : Value) (a b : List Int) (w : World) (ha : SliceAt w 1 v a.length (nums a)) (hb : SliceAt w 1 u b.length (nums b)) (hl : a.length ≤ 100000) :
    Calls Try.prog 10 #[v, u] w fun e w' => e = .returned (.bool (decide (a = b))) ∧ Below w.heap.size w w' := by
  by_cases hab : a.length = b.length
  · have q1 : ((a.length : Int) != (b.length : Int)) = false := by rw [hab]; simp
    have HAB := Lib.hid hab
    have ha' := ha
    have hb' := hb
    obtain ⟨A, c, rfl, _⟩ := ha'.form
    obtain ⟨B, d, rfl, _⟩ := hb'.form
    clear ha' hb' hab
    go_enter Try.func10, Try.ntmps10
    go_wp2
    go_loopw [5] (fun i wr => ∃ k : Nat, k ≤ a.length ∧ i = .int .i64 k ∧ Hid (a.take k = b.take k) ∧ Below w.heap.size w wr) (fun i _ => a.length - (intOf i).toNat)
    case atStart => exact ⟨0, Nat.zero_le _, rfl, Lib.hid rfl, Below.refl _ _⟩
    case round =>
      obtain ⟨k, hk, rfl, HT, hbw⟩ := hrel
      by_cases hlt : k < a.length
      · have hlt2 : k < b.length := by have := HAB.out; omega
        have sa := ha.later hbw
        have sb := hb.later hbw
        obtain ⟨ba, oa, ca, hva, _, _, hba, hca⟩ := sa.pos (by omega)
        obtain ⟨rfl, _, rfl⟩ := Value.slice.inj hva
        obtain ⟨bb, ob, cb, hvb, _, _, hbb, hcb⟩ := sb.pos (by omega)
        obtain ⟨rfl, _, rfl⟩ := Value.slice.inj hvb
        have xa := hca k _ (nums_get hlt)
        have xb := hcb k _ (nums_get hlt2)
        have HA := Lib.hid (List.getElem?_eq_getElem hlt)
        have HB := Lib.hid (List.getElem?_eq_getElem hlt2)
        have i1 : (k : Int) < (a.length : Int) := by omega
        have i2 : (k : Int) < (b.length : Int) := by omega
        clear hca hcb hva hvb sa sb
        generalize a[k] = x at *
        generalize b[k] = y at *
        rcases hxy : (x != y) with _ | _
        · have hxy' : x = y := by simpa using hxy
          subst hxy'
          clear hxy
          have hxy : (x != x) = false := bne_self_eq_false _
          go_wp2_with fail
          go_quiet (fail)
          go_wp2
          go_roundw
          case rel => exact ⟨k + 1, by omega, by go_num, Lib.hid (by rw [List.take_add_one, List.take_add_one, HT.out, HA.out, HB.out]), below_drewN hbw _⟩
          case measure => simp [intOf]; omega
        · have hne : x ≠ y := by simpa using hxy
          go_wp2_with fail
          go_quiet (fail)
          go_wp2
          go_ret
          refine ⟨?_, below_drewN hbw _⟩
          rw [decide_eq_false (fun e => hne (by have h1 := HA.out; have h2 := HB.out; rw [e] at h1; exact Option.some.inj (h1.symm.trans h2)))]
          rfl
      · obtain rfl : k = a.length := by omega
        have hfin : a = b := by have h := HT.out; rw [List.take_of_length_le (Nat.le_refl _), List.take_of_length_le (by have := HAB.out; omega)] at h; exact h
        have HD := Lib.hid (decide_eq_true hfin)
        clear hfin
        go_wp2
        go_ret
        exact ⟨by rw [HD.out]; rfl, hbw⟩
  · have q1 : ((a.length : Int) != (b.length : Int)) = true := by simp; omega
    have hd : decide (a = b) = false := decide_eq_false (fun e => hab (by rw [e]))
    obtain ⟨A, c, rfl, _⟩ := ha.form
    obtain ⟨B, d, rfl, _⟩ := hb.form
    rw [hd]
    clear ha hb hd
    go_enter Try.func10, Try.ntmps10
    go_wp2
    go_ret
    exact ⟨rfl, Below.refl _ _⟩
end Go.Proofs.Ytdniapakoolbjaa
