/- Keys: the contracts of the closures 'one' and 'row' of presses. Nothing that was there is turned but by yield. -/
import Derived.Test.YtioggdiicgfoaaaKeyC
namespace Go.Proofs.Ytioggdiicgfoaaa
open Go.RowKit Rf Mem KM
attribute [local go_sem ↓] run_max2 run_min2
/-- a press as a value -/
def prV (p : Pr) : Value := .agg #[.int .u8 p.1, .int .i64 p.2.1, .int .i64 p.2.2]
set_option maxRecDepth 100000 in
theorem one_c (kind : Int) (is : Bool) (yb l : Nat) (W : World) (Q : Ending → World → Prop) (hyb : W.cell? ⟨yb, 0, none⟩ = some (.func (.yield l) #[] #[])) (h0 : is = false → Q (.returned (.bool true)) W)
    (h1 : is = true → YieldAt Fence.wide 0 Try.prog l #[prV (kind, 0, 0)] W fun e W' => e = .returned (.bool true) ∧ Q (.returned (.bool true)) W') :
    CallsIn Fence.wide 0 Try.prog 45 #[.int .u8 kind, .bool is, .pointer (some ⟨yb, 0, none⟩)] W Q := by
  cases is
  · have H0 := Lib.hid (h0 rfl)
    clear h0 h1
    refine callsIn_of_wp Try.func45 rfl trivial ?_ rfl
    simp only [Try.ntmps45, List.size_toArray, List.length_cons, List.length_nil, Nat.reduceAdd, Nat.reduceSub, Array.replicate_succ, Array.replicate_zero, List.push_toArray, List.append_toArray, List.nil_append, List.cons_append]
    gi_wp2
    refine ⟨(fun _ h => by cases h), ?_⟩
    gi_wp2
    exact H0.out
  · obtain ⟨fn, tmps, assign, body, hy, hR⟩ := h1 rfl
    unfold prV at hy
    clear h0 h1
    refine callsIn_of_wp Try.func45 rfl trivial ?_ rfl
    simp only [Try.ntmps45, List.size_toArray, List.length_cons, List.length_nil, Nat.reduceAdd, Nat.reduceSub, Array.replicate_succ, Array.replicate_zero, List.push_toArray, List.append_toArray, List.nil_append, List.cons_append]
    gi_wp2
    refine ⟨rfl, hR.mono ?_⟩
    rintro e W' ⟨rfl, hQ⟩
    have HQ := Lib.hid hQ
    clear hy hR hQ
    gi_wp2
    exact HQ.out
set_option maxRecDepth 100000 in
theorem row_c (kind : Int) (z : BitVec 32) (n : Nat) (yb l : Nat) (S : Nat → World → Prop) (W0 : World) (hn : n ≤ 32) (hyb : ∀ i W, S i W → W.cell? ⟨yb, 0, none⟩ = some (.func (.yield l) #[] #[]))
    (hyes : ∀ i W, i < n → z.getLsbD i = true → S i W → YieldAt Fence.wide 0 Try.prog l #[prV (kind, i, 0)] W fun e W' => e = .returned (.bool true) ∧ S (i + 1) W') (hno : ∀ i W, i < n → z.getLsbD i = false → S i W → S (i + 1) W) (h0 : S 0 W0) :
    CallsIn Fence.wide 0 Try.prog 46 #[.int .u8 kind, .int .u32 z.toNat, .int .i64 n, .pointer (some ⟨yb, 0, none⟩)] W0 fun e W' => e = .returned (.bool true) ∧ S n W' := by
  have HYB := Lib.hid hyb
  have HYES := Lib.hid hyes
  have HNO := Lib.hid hno
  have H0 := Lib.hid h0
  clear hyb hyes hno h0
  refine callsIn_of_wp Try.func46 rfl trivial ?_ rfl
  simp only [Try.ntmps46, List.size_toArray, List.length_cons, List.length_nil, Nat.reduceAdd, Nat.reduceSub, Array.replicate_succ, Array.replicate_zero, List.push_toArray, List.append_toArray, List.nil_append, List.cons_append]
  gi_wp2
  gi_loopw [10] (fun i wr => ∃ k : Nat, k ≤ n ∧ i = .int .i64 k ∧ Hid (S k wr)) (fun i _ => n - (intOf i).toNat)
  case atStart => exact ⟨0, Nat.zero_le _, rfl, H0⟩
  case round =>
    obtain ⟨k, hk, rfl, HS⟩ := hrel
    by_cases hlt : k < n
    · have i1 : (k : Int) < (n : Int) := by omega
      have hlow := low32 z k
      have xy := HYB.out k _ HS.out
      rcases hb : z.getLsbD k with _ | _
      · rw [hb] at hlow
        have HN := Lib.hid (HNO.out k _ hlt hb HS.out)
        clear hb
        gi_wp2
        refine ⟨(fun _ h => by cases h), ?_⟩
        gi_wp2
        go_roundw
        case rel => exact ⟨k + 1, by omega, by go_num, HN⟩
        case measure => simp [intOf]; omega
      · rw [hb] at hlow
        obtain ⟨fn, tmps, assign, body, hy, hR⟩ := HYES.out k _ hlt hb HS.out
        unfold prV at hy
        clear hb
        gi_wp2
        refine ⟨rfl, hR.mono ?_⟩
        rintro e W' ⟨rfl, hQ⟩
        have HQ := Lib.hid hQ
        clear hy hR hQ
        gi_wp2
        go_roundw
        case rel => exact ⟨k + 1, by omega, by go_num, HQ⟩
        case measure => simp [intOf]; omega
    · obtain rfl : k = n := by omega
      gi_wp2
      first
        | (go_ret; exact ⟨rfl, HS.out⟩)
        | exact ⟨rfl, _, results_tmp rfl _ _ _, rfl, HS.out⟩
end Go.Proofs.Ytioggdiicgfoaaa
