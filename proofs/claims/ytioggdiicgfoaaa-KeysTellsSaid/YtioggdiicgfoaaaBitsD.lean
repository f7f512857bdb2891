/- Contracts: begin of bits; add of one bit. -/
import Derived.Test.YtioggdiicgfoaaaBitsC
import Derived.StillTailTactics
namespace Go.Proofs.Ytioggdiicgfoaaa
open Go.RowKit Rf Mem Bv Bits Str
attribute [local go_sem ↓] run_max2 run_min2
set_option maxHeartbeats 1000000 in
set_option maxRecDepth 100000 in
theorem begin_c (v : Value) (B : List (BitVec 8)) (N : Int) (w : World) (hs : SliceAt w 1 v B.length (u8s B)) (hl : B.length ≤ 140737488355328) (hN1 : -9223372036854775808 ≤ N) (hN2 : N ≤ 9223372036854775807) :
    Calls Try.prog 47 #[bv v N] w fun e w' => Below w.heap.size w w' ∧
      ((right B N = true ∧ ∃ v', e = .returned (.tuple #[bv v' N, .bool true]) ∧ w'.ownsRow w.heap.size 5 1 v' B.length (u8s B)) ∨
       (right B N = false ∧ e = .returned (.tuple #[bv (.slice none 0 0) 0, .bool false]))) := by
  have hB : Below w.heap.size w ((w.alloc (.cells #[v, .int .i64 N] 62)).alloc (.cells #[.slice none 0 0, .int .i64 0] 62)) := ((Below.refl _ w).alloc (Nat.le_refl _) _).alloc (by simp) _
  have hs' := hs.later hB
  obtain ⟨A, c, rfl, _⟩ := hs.form
  clear hs
  rcases hr : right B N with _ | _
  · go_enter Try.func47, Try.ntmps47
    go_wp2_with fail
    refine (Right_c _ B N _ hs' hN1 hN2).mono ?_
    rintro e w1 ⟨rfl, b1⟩
    rw [hr]
    have g2 := below_at b1 (k := w.heap.size + 1) (o := .cells #[.slice none 0 0, .int .i64 0] 62) (new_at (by simp) _) (by simp)
    have c20 := cell_at g2 0
    have c21 := cell_at g2 1
    have f20 := free_at g2 0
    have f21 := free_at g2 1
    go_wp2
    refine bodyPost_ret (res_bits2 rfl rfl (set_at (set_at g2 0 _) 1 _)) rfl ⟨?_, .inr ⟨trivial, rfl⟩⟩
    exact ((hB.trans (b1.mono hB.size)).setCell (by simp) _).setCell (by simp) _
  · go_enter Try.func47, Try.ntmps47
    go_wp2_with fail
    refine (Right_c _ B N _ hs' hN1 hN2).mono ?_
    rintro e w1 ⟨rfl, b1⟩
    rw [hr]
    have g1 := below_at b1 (k := w.heap.size) (o := .cells #[.slice A B.length c, .int .i64 N] 62) (old_at (new_at rfl _) _) (by simp; omega)
    have g2 := below_at b1 (k := w.heap.size + 1) (o := .cells #[.slice none 0 0, .int .i64 0] 62) (new_at (by simp) _) (by simp)
    have c10 := cell_at g1 0
    have c11 := cell_at g1 1
    go_wp2_with fail
    refine (Own_c _ B N _ (hs'.later b1) hl).mono ?_
    rintro e w2 ⟨v2, rfl, ho2, b2⟩
    have hsz := b1.size
    simp only [World.size_alloc, heap_alloc, Array.size_push] at hsz
    have g3 := below_at b2 g2 (by omega)
    have c30 := cell_at g3 0
    have c31 := cell_at g3 1
    have f30 := free_at g3 0
    have f31 := free_at g3 1
    obtain ⟨A2, c2, rfl, _⟩ := (sliceAt_of_own ho2).form
    go_wp2
    refine bodyPost_ret (res_bits2 rfl rfl (set_at (set_at g3 0 _) 1 _)) rfl ⟨?_, .inl ⟨trivial, _, rfl, ?_⟩⟩
    · exact ((hB.trans ((below_step b1 b2).mono hB.size)).setCell (by simp) _).setCell (by simp) _
    · exact own_base_le (own_set (own_set ho2 (by simp; omega) _) (by simp; omega) _) (by omega)
/-- block g holds the bits l, its bytes in a row that the call owns; O: these blocks -/
def Acc (base g : Nat) (O : Nat → Prop) (w : World) (l : List Bool) : Prop :=
  ∃ v B, w.heap[g]? = some (.cells #[v, .int .i64 (l.length : Int)] 62 (0, 0)) ∧ w.ownsRow base 5 1 v B.length (u8s B) ∧ Holds B l ∧ base ≤ g ∧ v.ownBlock ≠ some g ∧ ∀ k, O k ↔ (k = g ∨ v.ownBlock = some k)
theorem or_high (y : BitVec 8) (r : Nat) : Go.bits .or .u8 (y.toNat : Int) ((128 : Int) / 2 ^ r) = ((y ||| (128#8 >>> r) : BitVec 8).toNat : Int) := by
  have h : ((128 : Int) / 2 ^ r) = ((128#8 >>> r : BitVec 8).toNat : Int) := Bv.shr_bv 128#8 r
  rw [h]; exact Bv.bits_or .u8 rfl y _
theorem acc_done {base g : Nat} {W : World} {v : Value} {B : List (BitVec 8)} {l : List Bool} {b : Bool} (hg : W.heap[g]? = some (.cells #[v, .int .i64 (l.length : Int)] 62 (0, 0))) (ho : W.ownsRow base 5 1 v B.length (u8s B))
    (hH : Holds B (l ++ [b])) (hbg : base ≤ g) (hne : v.ownBlock ≠ some g) : Acc base g (fun k => k = g ∨ v.ownBlock = some k) (W.setCell ⟨g, 1, none⟩ (.int .i64 ((l.length : Int) + 1))) (l ++ [b]) := by
  refine ⟨v, B, ?_, own_later ho (fun k hk => Below.heap_setCell W _ _ k (by rintro rfl; exact hne hk)), hH, hbg, hne, fun k => Iff.rfl⟩
  rw [set_at hg 1]; simp
theorem own_some {w : World} {base e n : Nat} {A : Option Addr} {c : Nat} {xs : List Value} (h : w.ownsRow base e 1 (.slice A n c) n xs) (hn : 0 < n) : ∃ g, A = some ⟨g, 0, none⟩ := by
  rcases h.2 with ⟨_, h0⟩ | ⟨g, cap, cur, hv, _⟩
  · omega
  · obtain ⟨rfl, _, _⟩ := Value.slice.inj hv; exact ⟨g, rfl⟩
theorem u8s_modify (B : List (BitVec 8)) (i : Nat) (y : BitVec 8) (f : BitVec 8 → BitVec 8) (h : B[i]? = some y) : (u8s B).set i (.int .u8 ((f y).toNat : Int)) = u8s (B.modify i f) := by
  apply List.ext_getElem?
  intro j
  rw [List.getElem?_set, List.getElem?_map, List.getElem?_map, List.getElem?_modify]
  have hi := (List.getElem?_eq_some_iff.1 h).1
  by_cases e : i = j
  · subst e; rw [if_pos rfl, if_pos (by simpa [u8s] using hi), h]; simp
  · rw [if_neg e]; cases B[j]? <;> simp [e]
set_option maxHeartbeats 1000000 in
set_option maxRecDepth 100000 in
theorem add_old (base g : Nat) (O : Nat → Prop) (l : List Bool) (b : Bool) (w : World) (hA : Acc base g O w l) (hl : l.length ≤ 1000000) (h8 : l.length % 8 ≠ 0) :
    Calls Try.prog 48 #[.pointer (some ⟨g, 0, none⟩), .bool b] w fun e w' => e = .returned (.tuple #[]) ∧ ∃ O', Acc base g O' w' (l ++ [b]) ∧ Keep (fun k => ¬ O k) w w' ∧ ∀ k, O' k → O k ∨ w.heap.size ≤ k := by
  obtain ⟨v, B, hg, ho, hH, hbg, hne, hO⟩ := hA
  have hadd := holds_add hH b
  have hBl := hH.1
  have hgs : g < w.heap.size := (Array.getElem?_eq_some_iff.1 hg).1
  obtain ⟨A, c, rfl, hc1, hc2⟩ := (sliceAt_of_own ho).form
  have c0 := cell_at hg 0
  have c1 := cell_at hg 1
  have f0 := free_at hg 0
  have f1 := free_at hg 1
  obtain ⟨r, hr, hr8, hr0⟩ : ∃ r, l.length % 8 = r ∧ r < 8 ∧ r ≠ 0 := ⟨_, rfl, by omega, h8⟩
  have hm : Go.bits .and .i64 (l.length : Int) 7 = (r : Int) := by rw [mask7]; omega
  have hz : ((r : Int) == 0) = false := by simp; omega
  cases b
  · have hB : addB B l.length false = B := by unfold addB; simp [h8]
    rw [hB] at hadd
    clear hH hBl hB hr h8
    go_enter Try.func48, Try.ntmps48
    go_wp2
    go_end0
    exact ⟨rfl, _, acc_done hg ho hadd hbg hne, (Keep.refl _ _).setCell (fun _ h => h ((hO g).2 (.inl rfl))) _, fun k hk => .inl ((hO k).2 hk)⟩
  · obtain ⟨g1, rfl⟩ := own_some ho (by omega)
    have hg1 : g1 ≠ g := fun e => hne (by rw [e]; rfl)
    obtain ⟨m, hBm, hml⟩ : ∃ m, B.length - 1 = m ∧ m < B.length := ⟨_, rfl, by omega⟩
    have hy : B[m]? = some B[m] := List.getElem?_eq_getElem _
    have hB : addB B l.length true = B.modify m (fun x => x ||| (128#8 >>> r)) := by unfold addB; simp [hr, hr0, hBm]
    have hset : (u8s B).set m (.int .u8 ((B[m] ||| (128#8 >>> r) : BitVec 8).toNat : Int)) = u8s (B.modify m (fun x => x ||| (128#8 >>> r))) := u8s_modify B m _ (fun x => x ||| (128#8 >>> r)) hy
    have cy : w.cell? ⟨g1, m, none⟩ = some (.int .u8 (B[m].toNat : Int)) := by rw [ho.cellAt _ (by omega)]; simp [u8s, hy]
    have fy := ho.frozenAt m
    generalize B[m] = y at *
    have hor := or_high y r
    have hst := (ho.stored m (.int .u8 ((y ||| (128#8 >>> r)).toNat : Int))).1
    rw [hset] at hst
    rw [hB] at hadd
    have hmlen : (B.modify m (fun x => x ||| (128#8 >>> r))).length = B.length := by simp
    generalize hzz : y ||| (128#8 >>> r) = z at *
    have hG : (w.setCell ⟨g1, m, none⟩ (.int .u8 (z.toNat : Int))).drew.heap[g]? = some (.cells #[.slice (some ⟨g1, 0, none⟩) B.length c, .int .i64 (l.length : Int)] 62 (0, 0)) := set_far hg (fun e => hg1 e.symm) _
    have hK : Keep (fun k => ¬ O k) w ((w.setCell ⟨g1, m, none⟩ (.int .u8 (z.toNat : Int))).setCell ⟨g, 1, none⟩ (.int .i64 ((l.length : Int) + 1))).drew := (((Keep.refl _ _).setCell (fun _ h => h ((hO g1).2 (.inr rfl))) _).setCell (fun _ h => h ((hO g).2 (.inl rfl))) _).drew
    rw [← hmlen] at hst
    have HD : Acc base g (fun k => k = g ∨ (Value.slice (some ⟨g1, 0, none⟩) B.length c).ownBlock = some k) ((w.setCell ⟨g1, m, none⟩ (.int .u8 (z.toNat : Int))).drew.setCell ⟨g, 1, none⟩ (.int .i64 ((l.length : Int) + 1))) (l ++ [true]) :=
      acc_done hG (by rw [← hmlen]; exact hst) hadd hbg hne
    have HDD := Lib.hid HD
    have HKK := Lib.hid hK
    clear HD hK hG hmlen hzz
    have hsub : (B.length : Int) - 1 = (m : Int) := by omega
    have hwl : IntKind.i64.wrap (m : Int) = (m : Int) := IntWalk.i64_in _ (by omega)
    have i1 : (0 : Int) ≤ (m : Int) := by omega
    have i2 : (m : Int) < (B.length : Int) := by omega
    have i3 : m < c := by omega
    clear hH hBl hB hr h8 hset hst hadd hy hBm
    go_enter Try.func48, Try.ntmps48
    go_wp2_with fail
    go_still_tail 15, (by kernel_rfl)
    change wpList _ _ _ _ _ w.drew
    go_wp2
    go_end0
    exact ⟨rfl, _, HDD.out, HKK.out, fun k hk => .inl ((hO k).2 hk)⟩
end Go.Proofs.Ytioggdiicgfoaaa
