/- Flags of bits. -/
import Derived.Test.YtioggdiicgfoaaaBitsH
namespace Go.Proofs.Ytioggdiicgfoaaa
open Go.RowKit Rf Mem Bv Bits Str
attribute [local go_sem ↓] run_max2 run_min2
set_option maxHeartbeats 1000000 in
set_option maxRecDepth 100000 in
theorem Flags_bad (v : Value) (B : List (BitVec 8)) (N : Int) (u : Value) (fl : List Bool) (w : World) (hs : SliceAt w 1 v B.length (u8s B)) (hu : SliceAt w 1 u fl.length (bools fl)) (hl : B.length ≤ 140737488355328) (hN1 : -9223372036854775808 ≤ N) (hN2 : N ≤ 9223372036854775807)
    (h : right B N = false) :
    Calls Try.prog 32 #[bv v N, u] w fun e w' => Below w.heap.size w w' ∧ e = .returned (.tuple #[bv (.slice none 0 0) 0, .int .i64 2]) := by
  have hB : Below w.heap.size w ((w.alloc (.cells #[v, .int .i64 N] 62)).alloc (.cells #[.slice none 0 0, .int .i64 0] 62)) := ((Below.refl _ w).alloc (Nat.le_refl _) _).alloc (by simp) _
  have hs' := hs.later hB
  obtain ⟨A, c, rfl, _⟩ := hs.form
  obtain ⟨A', c', rfl, _⟩ := hu.form
  clear hs hu
  go_enter Try.func32, Try.ntmps32
  go_wp2_with fail
  refine (begin_c _ B _ _ hs' hl hN1 hN2).mono ?_
  rintro e w1 ⟨b1, (⟨hr, v1, rfl, ho1⟩ | ⟨hf, rfl⟩)⟩
  · rw [hr] at h; cases h
  · have g1 := below_at b1 (k := w.heap.size + 1) (o := .cells #[.slice none 0 0, .int .i64 0] 62) (new_at (by simp) _) (by simp)
    have d0 := cell_at g1 0
    have d1 := cell_at g1 1
    have e0 := free_at g1 0
    have e1 := free_at g1 1
    clear h
    go_wp2
    refine bodyPost_ret (res_bits2 (t := 4) (u := 5) rfl rfl (set_at (set_at (set_at (set_at g1 0 _) 1 _) 0 _) 1 _)) rfl ⟨?_, rfl⟩
    exact ((((hB.trans (b1.mono hB.size)).setCell (by simp) _).setCell (by simp) _).setCell (by simp) _).setCell (by simp) _
set_option maxHeartbeats 1000000 in
set_option maxRecDepth 100000 in
theorem Flags_good (v : Value) (B : List (BitVec 8)) (l : List Bool) (u : Value) (fl : List Bool) (w : World) (hs : SliceAt w 1 v B.length (u8s B)) (hu : SliceAt w 1 u fl.length (bools fl)) (hH : Holds B l) (hl : l.length ≤ 900000) (hfl : fl.length ≤ 1000) :
    Calls Try.prog 32 #[bv v l.length, u] w fun e w' => Below w.heap.size w w' ∧
      ∃ v' B', e = .returned (.tuple #[bv v' ((l.length + fl.length : Nat) : Int), .int .i64 0]) ∧ w'.ownsRow w.heap.size 5 1 v' B'.length (u8s B') ∧ Holds B' (l ++ fl) := by
  have hr : right B (l.length : Int) = true := (right_iff B _).2 ⟨l, rfl, hH⟩
  have hBl := hH.1
  have hBs : B.length ≤ 125000 := by omega
  clear hBl
  have hB : Below w.heap.size w ((w.alloc (.cells #[v, .int .i64 (l.length : Int)] 62)).alloc (.cells #[.slice none 0 0, .int .i64 0] 62)) := ((Below.refl _ w).alloc (Nat.le_refl _) _).alloc (by simp) _
  have hs' := hs.later hB
  obtain ⟨A, c, rfl, _⟩ := hs.form
  obtain ⟨A', c', rfl, _⟩ := hu.form
  clear hs
  go_enter Try.func32, Try.ntmps32
  go_wp2_with fail
  refine (begin_c _ B _ _ hs' (by omega) (by omega) (by omega)).mono ?_
  rintro e w1 ⟨b1, (⟨_, v1, rfl, ho1⟩ | ⟨hf, _⟩)⟩
  rotate_left
  · rw [hr] at hf; cases hf
  have g1 := below_at b1 (k := w.heap.size + 1) (o := .cells #[.slice none 0 0, .int .i64 0] 62) (new_at (by simp) _) (by simp)
  have c10 := cell_at g1 0
  have c11 := cell_at g1 1
  have f10 := free_at g1 0
  have f11 := free_at g1 1
  obtain ⟨A1, c1, rfl, _⟩ := (sliceAt_of_own ho1).form
  go_wp2_with fail
  have hsz1 := b1.size
  simp only [World.size_alloc] at hsz1
  have hg1s : ∀ k, (Value.slice A1 B.length c1).ownBlock = some k → w.heap.size + 2 ≤ k ∧ k < w1.heap.size := fun k hk => by
    have := own_base ho1 hk; simp only [World.size_alloc] at this; omega
  go_loopw [8, 19] (fun _ i wr => ∃ (k : Nat) (O : Nat → Prop), k ≤ fl.length ∧ i = .int .i64 k ∧ Acc w.heap.size (w.heap.size + 1) O wr (l ++ fl.take k) ∧ Below w.heap.size w wr) (fun _ i _ => fl.length - (intOf i).toNat)
  case atStart =>
    refine ⟨0, (fun k => k = w.heap.size + 1 ∨ (Value.slice A1 B.length c1).ownBlock = some k), by omega, rfl, ?_, ((hB.trans (b1.mono hB.size)).setCell (by simp) _).setCell (by simp) _⟩
    rw [List.take_zero, List.append_nil]
    refine ⟨_, B, by rw [set_at (set_at g1 0 _) 1]; simp, own_base_le (own_later ho1 (fun k hk => ?_)) (by simp; omega), hH, by omega, fun e => by have := hg1s _ e; omega, fun k => Iff.rfl⟩
    have := hg1s k hk
    exact (Below.heap_setCell _ _ _ k (by simp; omega)).trans (Below.heap_setCell _ _ _ k (by simp; omega))
  case round =>
    obtain ⟨k, O, hk, rfl, hA, hBr⟩ := hrel
    by_cases hlt : k < fl.length
    · obtain ⟨ba, oa, ca, hva, _, _, hba, hca⟩ := hu.pos (by omega)
      obtain ⟨rfl, _, rfl⟩ := Value.slice.inj hva
      have hfk : fl[k]? = some fl[k] := List.getElem?_eq_getElem hlt
      have cx := (hBr.cell (p := ⟨ba, oa + k, none⟩) hba).trans (hca k (.bool fl[k]) (by simp [hfk]))
      have hT : l ++ fl.take (k + 1) = (l ++ fl.take k) ++ [fl[k]] := by rw [List.take_add_one, hfk, List.append_assoc]; rfl
      have HT := Lib.hid hT
      have hlen : (l ++ fl.take k).length ≤ 1000000 := by rw [List.length_append, List.length_take]; omega
      clear hva hca hT hfk c10 c11 f10 f11 g1
      generalize fl[k] = b at *
      go_wp2_with fail
      refine (add_c _ _ O _ b _ hA hlen hBr.size).mono ?_
      rintro e W' ⟨rfl, O', hA', hk', ho'⟩
      go_wp2
      go_roundw
      case rel => exact ⟨k + 1, O', by omega, by go_num, by rw [HT.out]; exact hA', below_keep hBr hk' (Nat.le_refl _) (fun q hq hOk => by
        obtain ⟨v, B2, _, ho2, _, hb2, _, hO2⟩ := hA
        rcases (hO2 q).1 hOk with e | e
        · omega
        · have := (own_base ho2 e).1; omega)⟩
      case measure => simp [intOf]; omega
    · have e : k = fl.length := by omega
      rw [e, List.take_of_length_le (Nat.le_refl _)] at hA
      clear e c10 c11 f10 f11 g1
      obtain ⟨v, B2, hg, ho, hH2, hbg, hne2, hO2⟩ := hA
      have hll : (((l ++ fl).length : Nat) : Int) = ((l.length + fl.length : Nat) : Int) := by rw [List.length_append]
      rw [hll] at hg
      obtain ⟨A2, c2, rfl, _⟩ := (sliceAt_of_own ho).form
      obtain ⟨L, hLL⟩ : ∃ L, l.length + fl.length = L := ⟨_, rfl⟩
      rw [hLL] at hg
      have HL2 := Lib.hid hLL
      clear hLL hll hr hH
      have d0 := cell_at hg 0
      have d1 := cell_at hg 1
      have e0 := free_at hg 0
      have e1 := free_at hg 1
      go_wp2
      refine bodyPost_ret (res_bits2 (t := 4) (u := 5) rfl rfl (set_at (set_at hg 0 _) 1 _)) rfl ⟨(hBr.setCell (by simp) _).setCell (by simp) _, _, B2, by rw [HL2.out]; rfl, ?_, hH2⟩
      exact own_later ho (fun q hq => (Below.heap_setCell _ _ _ q (fun e => hne2 (by rw [hq, e]))).trans (Below.heap_setCell _ _ _ q (fun e => hne2 (by rw [hq, e]))))
end Go.Proofs.Ytioggdiicgfoaaa
