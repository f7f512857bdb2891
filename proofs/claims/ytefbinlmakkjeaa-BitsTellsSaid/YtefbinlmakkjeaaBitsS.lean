/- Contracts of the document's bits: with. -/
import Derived.Test.YtefbinlmakkjeaaBitsR
import Derived.StillTailTactics
namespace Go.Proofs.Ytefbinlmakkjeaa
open Go.RowKit Rf Mem Bv Bits Str
attribute [local go_sem ↓] run_max2 run_min2
theorem own_set' {w : World} {base e sz n : Nat} {v : Value} {xs : List Value} (h : w.ownsRow base e sz v n xs) {p : Addr} (hp : v.ownBlock ≠ some p.block) (u : Value) : (w.setCell p u).ownsRow base e sz v n xs :=
  own_later h (fun k hk => Below.heap_setCell _ _ _ k (by rintro rfl; exact hp hk))
/-- what one bit more leaves: a row of the call's own, at the old block or at a new one -/
def WithPost (base : Nat) (v : Value) (l : List Bool) (b : Bool) (w : World) : Ending → World → Prop := fun e w' =>
  ∃ A c B', e = .returned (bv (.slice A B'.length c) ((l.length : Int) + 1)) ∧ w'.ownsRow base 5 1 (.slice A B'.length c) B'.length (u8s B') ∧ Holds B' (l ++ [b]) ∧ Keep (fun k => v.ownBlock ≠ some k) w w' ∧
    ∀ k, (Value.slice A B'.length c).ownBlock = some k → v.ownBlock = some k ∨ w.heap.size ≤ k
theorem with_end {base : Nat} {v v' : Value} {l : List Bool} {b : Bool} {w W : World} {B' : List (BitVec 8)} {m : Value}
    (hg : W.heap[w.heap.size]? = some (.cells #[v', .int .i64 (l.length : Int)] 24 (0, 0))) (ho : W.ownsRow base 5 1 v' B'.length (u8s B')) (hH : Holds B' (l ++ [b])) (hk : Keep (fun k => v.ownBlock ≠ some k) w W)
    (hb : ∀ k, v'.ownBlock = some k → v.ownBlock = some k ∨ w.heap.size + 2 ≤ k) (hvb : ∀ k, v.ownBlock = some k → k < w.heap.size) :
    WithPost base v l b w (.returned (bv v' ((l.length : Int) + 1))) (((W.setCell ⟨w.heap.size, 1, none⟩ (.int .i64 ((l.length : Int) + 1))).setCell ⟨w.heap.size + 1, 0, none⟩ v').setCell ⟨w.heap.size + 1, 1, none⟩ m) := by
  obtain ⟨A, c, rfl, _, _⟩ := (sliceAt_of_own ho).form
  have hne : ∀ k, (Value.slice A B'.length c).ownBlock = some k → k ≠ w.heap.size ∧ k ≠ w.heap.size + 1 := by
    intro k hk
    rcases hb k hk with h | h
    · have := hvb k h; omega
    · omega
  refine ⟨A, c, B', rfl, own_set' (own_set' (own_set' ho ?_ _) ?_ _) ?_ _, hH, ((hk.setCell (by simp) _).setCell (fun h => absurd h (by simp)) _).setCell (fun h => absurd h (by simp)) _, fun k hk => ?_⟩
  · intro h; exact (hne _ h).1 rfl
  · intro h; exact (hne _ h).2 rfl
  · intro h; exact (hne _ h).2 rfl
  · rcases hb k hk with h | h
    · exact .inl h
    · exact .inr (by omega)
set_option maxHeartbeats 1000000 in
set_option maxRecDepth 100000 in
theorem with_old (base : Nat) (v : Value) (B : List (BitVec 8)) (l : List Bool) (b : Bool) (w : World) (ho : w.ownsRow base 5 1 v B.length (u8s B)) (hH : Holds B l) (hl : l.length ≤ 1000000) (h8 : l.length % 8 ≠ 0) :
    Calls Try.prog 24 #[bv v (l.length : Int), .bool b] w (WithPost base v l b w) := by
  have hvb : ∀ k, v.ownBlock = some k → k < w.heap.size := fun k hk => (own_base ho hk).2
  have hadd := holds_add hH b
  have hBl := hH.1
  obtain ⟨A, c, rfl, hc1, hc2⟩ := (sliceAt_of_own ho).form
  obtain ⟨g1, rfl⟩ := own_some ho (by omega)
  have hg1 : g1 < w.heap.size := hvb g1 rfl
  have hB : Below w.heap.size w ((w.alloc (.cells #[.slice (some ⟨g1, 0, none⟩) B.length c, .int .i64 (l.length : Int)] 24)).alloc (.cells #[.slice none 0 0, .int .i64 0] 24)) := below_step (below_new w _) (below_new _ _)
  have hg : ((w.alloc (.cells #[.slice (some ⟨g1, 0, none⟩) B.length c, .int .i64 (l.length : Int)] 24)).alloc (.cells #[.slice none 0 0, .int .i64 0] 24)).heap[w.heap.size]? = some _ := old_at (new_at rfl _) _
  have hr : ((w.alloc (.cells #[.slice (some ⟨g1, 0, none⟩) B.length c, .int .i64 (l.length : Int)] 24)).alloc (.cells #[.slice none 0 0, .int .i64 0] 24)).heap[w.heap.size + 1]? = some _ := new_at (by simp) _
  have ho0 := own_later (w' := ((w.alloc (.cells #[.slice (some ⟨g1, 0, none⟩) B.length c, .int .i64 (l.length : Int)] 24)).alloc (.cells #[.slice none 0 0, .int .i64 0] 24))) ho (fun k hk => hB.block k (hvb k hk))
  have hK0 : Keep (fun k => (Value.slice (some ⟨g1, 0, none⟩) B.length c).ownBlock ≠ some k) w _ := Keep.of_below hB (fun k h _ => h)
  obtain ⟨r, hr', hr8, hr0⟩ : ∃ r, l.length % 8 = r ∧ r < 8 ∧ r ≠ 0 := ⟨_, rfl, by omega, h8⟩
  have hm : (l.length : Int) % 8 = (r : Int) := by omega
  have hz : ((r : Int) == 0) = false := by simp; omega
  cases b
  · have hBe : addB B l.length false = B := by unfold addB; simp [h8]
    rw [hBe] at hadd
    have HA := Lib.hid hadd
    have HVB := Lib.hid hvb
    have HO := Lib.hid ho
    clear hH hBl hBe h8 ho hadd hvb hr'
    go_enter Try.func24, Try.ntmps24
    go_wp2
    refine bodyPost_ret (res_bits rfl rfl (new_at (by simp) _)) rfl ?_
    have hB' : Below w.heap.size w ((w.alloc (.cells #[.slice (some ⟨g1, 0, none⟩) B.length c, .int .i64 ((l.length : Int) + 1)] 24)).alloc (.cells #[.slice (some ⟨g1, 0, none⟩) B.length c, .int .i64 ((l.length : Int) + 1)] 24)) := below_step (below_new w _) (below_new _ _)
    exact ⟨_, c, B, rfl, own_later HO.out (fun k hk => hB'.block k (HVB.out k hk)), HA.out, Keep.of_below hB' (fun k h _ => h), fun k hk => .inl hk⟩
  · obtain ⟨m, hBm, hml⟩ : ∃ m, B.length - 1 = m ∧ m < B.length := ⟨_, rfl, by omega⟩
    have hm8 : (l.length : Int) / 8 = (m : Int) := by omega
    have hy : B[m]? = some B[m] := List.getElem?_eq_getElem _
    have hBe : addB B l.length true = B.modify m (fun x => x ||| (128#8 >>> r)) := by unfold addB; simp [hr', hr0, hBm]
    have hset : (u8s B).set m (.int .u8 ((B[m] ||| (128#8 >>> r) : BitVec 8).toNat : Int)) = u8s (B.modify m (fun x => x ||| (128#8 >>> r))) := u8s_modify B m _ (fun x => x ||| (128#8 >>> r)) hy
    have cy : ((w.alloc (.cells #[.slice (some ⟨g1, 0, none⟩) B.length c, .int .i64 (l.length : Int)] 24)).alloc (.cells #[.slice none 0 0, .int .i64 0] 24)).cell? ⟨g1, m, none⟩ = some (.int .u8 (B[m].toNat : Int)) := by rw [ho0.cellAt _ (by omega)]; simp [u8s, hy]
    have fy := ho0.frozenAt m
    generalize B[m] = y at *
    have hor := or_high y r
    have hst := (ho0.stored m (.int .u8 ((y ||| (128#8 >>> r)).toNat : Int))).1
    rw [hset] at hst
    rw [hBe] at hadd
    have hmlen : (B.modify m (fun x => x ||| (128#8 >>> r))).length = B.length := by simp
    generalize hzz : y ||| (128#8 >>> r) = z at *
    replace hst : World.ownsRow (((w.alloc (.cells #[.slice (some ⟨g1, 0, none⟩) B.length c, .int .i64 (l.length : Int)] 24)).alloc (.cells #[.slice none 0 0, .int .i64 0] 24)).setCell ⟨g1, m, none⟩ (.int .u8 (z.toNat : Int))) base 5 1 (.slice (some ⟨g1, 0, none⟩) B.length c) (B.modify m (fun x => x ||| (128#8 >>> r))).length (u8s (B.modify m (fun x => x ||| (128#8 >>> r)))) := by rw [hmlen]; exact hst
    have HVB := Lib.hid hvb
    have HA := Lib.hid hadd
    have HS := Lib.hid hst
    have HL := Lib.hid hmlen
    have hwl : IntKind.i64.wrap (m : Int) = (m : Int) := IntWalk.i64_in _ (by omega)
    have i1 : (0 : Int) ≤ (m : Int) := by omega
    have i2 : (m : Int) < (B.length : Int) := by omega
    have i3 : m < c := by omega
    have i4 : (l.length : Int) ≤ 1000000 := by omega
    have hsh : min (IntKind.u64.wrap ((l.length : Int).tmod 8)).toNat 8 = r := by
      rw [Int.tmod_eq_emod_of_nonneg (by omega), hm, show IntKind.u64.wrap (r : Int) = (r : Int) from IntWalk.u64_in _ (by omega)]; omega
    have HSH := Lib.hid hsh
    clear hsh hH hBl hBe hr' h8 hset hst hadd hy hBm ho hvb hzz hmlen
    go_enter Try.func24, Try.ntmps24
    go_wp2_with fail
    generalize (w.alloc (.cells #[.slice (some ⟨g1, 0, none⟩) B.length c, .int .i64 (l.length : Int)] 24)).alloc (.cells #[.slice none 0 0, .int .i64 0] 24) = W0 at *
    have c0 := cell_at hg 0
    have c1 := cell_at hg 1
    have f0 := free_at hg 0
    have f1 := free_at hg 1
    have r0 := cell_at hr 0
    have r1 := cell_at hr 1
    have fr0 := free_at hr 0
    have fr1 := free_at hr 1
    go_still_tail 18, (by kernel_rfl)
    change wpList _ _ _ _ _ W0.drew
    simp only [HSH.out, hor]
    go_wp2
    refine bodyPost_ret (res_bits rfl rfl (set_at (set_at (g := w.heap.size + 1) ((Below.heap_setCell _ ⟨w.heap.size, 1, none⟩ _ _ (by simp)).trans ((Below.heap_setCell W0.drew ⟨g1, m, none⟩ _ _ (by simp; omega)).trans hr)) 0 _) 1 _)) rfl ?_
    have hG1 : (W0.drew.setCell ⟨g1, m, none⟩ (.int .u8 (z.toNat : Int))).heap[w.heap.size]? = _ := (Below.heap_setCell W0.drew ⟨g1, m, none⟩ _ _ (by simp; omega)).trans hg
    refine with_end (W := W0.drew.setCell ⟨g1, m, none⟩ (.int .u8 (z.toNat : Int))) hG1 HS.out HA.out ?_ (fun k hk => .inl hk) HVB.out
    exact Keep.setCell (p := ⟨g1, m, none⟩) (Keep.drew hK0) (fun _ h => h rfl) _
end Go.Proofs.Ytefbinlmakkjeaa
