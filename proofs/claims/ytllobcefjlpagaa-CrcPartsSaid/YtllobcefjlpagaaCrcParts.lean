/- CrcParts: for every argument the statement's Go text returns true and turns nothing that was there. It is proved at every argument, without a condition beyond the row. -/
import Derived.Test.YtllobcefjlpagaaMem
import Derived.Test.YtllobcefjlpagaaCrcLaw
import Derived.Test.YtllobcefjlpagaaFrame
import Derived.Deep.RegionHeld3
import Derived.Deep.DrawnRows
namespace Go.Proofs.Ytllobcefjlpagaa.crcParts
open Go.ChangeShapes Go.WideShapes Go.ChangeAt Go.RowKit Rf
attribute [local go_sem ↓] run_max2 run_min2
open Mem Bv Crc Str
def row (T : TypeId) (xs : List (BitVec 8)) : Obj := .cells (u8s xs).toArray T (0, 0)
theorem eq_bv (x y : BitVec 16) : (((x.toNat : Int) == (y.toNat : Int)) : Bool) = decide (x = y) := by
  rw [Bool.eq_iff_iff]; simp only [beq_iff_eq, decide_eq_true_eq, Int.natCast_inj, BitVec.toNat_inj]
theorem modAt (at_ : Int) (n : Nat) (hn : n ≤ 200) : ∃ (r : Int) (k : Nat), Int.tmod at_ ((n : Int) + 1) = r ∧ -(n : Int) ≤ r ∧ r ≤ n ∧ Int.tmod (r + n + 1) ((n : Int) + 1) = (k : Int) ∧ k ≤ n := by
  have h1 : Int.tmod at_ ((n : Int) + 1) < (n : Int) + 1 := Int.tmod_lt_of_pos _ (by omega)
  have h2 : -((n : Int) + 1) < Int.tmod at_ ((n : Int) + 1) := by
    have := Int.tmod_lt_of_pos (-at_) (b := (n : Int) + 1) (by omega)
    rw [Int.neg_tmod] at this; omega
  generalize Int.tmod at_ ((n : Int) + 1) = r at *
  have h3 : 0 ≤ Int.tmod (r + n + 1) ((n : Int) + 1) := Int.tmod_nonneg _ (by omega)
  have h4 : Int.tmod (r + n + 1) ((n : Int) + 1) < (n : Int) + 1 := Int.tmod_lt_of_pos _ (by omega)
  exact ⟨r, (Int.tmod (r + n + 1) ((n : Int) + 1)).toNat, rfl, by omega, by omega, by omega, by omega⟩
/-- the first j elements are put together, of n -/
def Mixed (xs ys zs : List (BitVec 8)) (n j : Nat) : Prop := zs.length = n ∧ ∀ q, q < j → ∃ x y, xs[q]? = some x ∧ ys[q]? = some y ∧ zs[q]? = some (x ^^^ y)
theorem mixed_next {xs ys zs : List (BitVec 8)} {n j : Nat} {x y : BitVec 8} (h : Mixed xs ys zs n j) (hj : j < n) (hx : xs[j]? = some x) (hy : ys[j]? = some y) : Mixed xs ys (zs.set j (x ^^^ y)) n (j + 1) := by
  refine ⟨by simpa using h.1, fun q hq => ?_⟩
  by_cases e : q = j
  · subst e; exact ⟨x, y, hx, hy, by rw [List.getElem?_set_self (by rw [h.1]; exact hj)]⟩
  · obtain ⟨x', y', q1, q2, q3⟩ := h.2 q (by omega)
    exact ⟨x', y', q1, q2, by rw [List.getElem?_set_ne (fun h => e h.symm)]; exact q3⟩
theorem mixed_all {xs ys zs : List (BitVec 8)} {n : Nat} (h : Mixed xs ys zs n n) (h1 : n ≤ xs.length) (h2 : n ≤ ys.length) : zs = List.zipWith (· ^^^ ·) (xs.take n) (ys.take n) := by
  apply List.ext_getElem?
  intro q
  by_cases hq : q < n
  · obtain ⟨x, y, q1, q2, q3⟩ := h.2 q hq
    rw [q3, List.getElem?_zipWith, List.getElem?_take, List.getElem?_take, if_pos hq, if_pos hq, q1, q2]
  · rw [List.getElem?_eq_none (by rw [h.1]; omega), List.getElem?_eq_none (by simp; omega)]
theorem mixed_start (xs ys : List (BitVec 8)) (n : Nat) : Mixed xs ys (List.replicate n 0#8) n 0 := ⟨by simp, fun q h => absurd h (by omega)⟩
theorem row_made (T : TypeId) (n : Nat) : Obj.cells (madeCells #[.int .u8 0] n) T = row T (List.replicate n 0#8) := by
  unfold row
  congr 1
  apply Array.toList_inj.1
  rw [toList_madeCells_one]; simp [u8s]
theorem low_beq (b : BitVec 8) (j : Nat) : (bits .and .u8 ((b.toNat : Int) / 2 ^ j) 1 == 1) = b.getLsbD j := by
  rw [shr_bv, and1_8]
  have h : (b >>> j).getLsbD 0 = decide ((b >>> j).toNat % 2 = 1) := by rw [BitVec.getLsbD, Nat.testBit_zero]
  rw [BitVec.getLsbD_ushiftRight, Nat.add_zero] at h
  rw [h]
  rcases Nat.mod_two_eq_zero_or_one (b >>> j).toNat with e | e <;> rw [e] <;> rfl
theorem go_next {s : BitVec 16} {xs : List (BitVec 8)} {j : Nat} {x : BitVec 8} (h : xs[j]? = some x) : goBits (Crc.go s (xs.take j)) ((bits8 x).take 8) = Crc.go s (xs.take (j + 1)) := by
  rw [List.take_add_one (l := xs), h, go_append, List.take_of_length_le (l := bits8 x) (by rw [bits8_length]; exact Nat.le_refl _)]
  simp [go, allBits]
set_option maxHeartbeats 1000000 in
set_option maxRecDepth 100000 in
theorem walk (va vb : Value) (xs ys : List (BitVec 8)) (at_ : Int) (s t : BitVec 16) (w : World) (hsa : SliceAt w 1 va xs.length (u8s xs)) (hsb : SliceAt w 1 vb ys.length (u8s ys)) : Calls Try.prog 5 #[va, vb, .int .i64 at_, .int .u16 s.toNat, .int .u16 t.toNat] w fun e w' => e = .returned (.bool true) ∧ Below w.heap.size w w' := by
  obtain ⟨n, hn⟩ : ∃ n : Nat, min (xs.length : Int) (ys.length : Int) = (n : Int) := ⟨min xs.length ys.length, by omega⟩
  have ln1 : n ≤ xs.length := by omega
  have ln2 : n ≤ ys.length := by omega
  obtain ⟨Aa, ca, rfl, la1, la2⟩ := hsa.form
  obtain ⟨Ab, cb, rfl, lb1, lb2⟩ := hsb.form
  by_cases hlen : 200 < n
  · go_enter Try.func5, Try.ntmps5
    go_wp2_with fail
    refine (wakes_c _).mono ?_
    rintro e w1 ⟨rfl, b1⟩
    go_wp2
    go_ret
    exact ⟨rfl, b1⟩
  · obtain ⟨r, k, hr, hr1, hr2, hk, hk2⟩ := modAt at_ n (by omega)
    have hne : ((n : Int) + 1 == 0) = false := by simp; omega
    have hmk := run_make_row' (P := Try.prog) 23 5 (.int .u8 0) 1 Try.underlying23 info_u8 rfl .i64 .i64 n (by omega) (by omega)
    go_enter Try.func5, Try.ntmps5
    go_wp2_with fail
    go_loopw [13, 14, 15] (fun bt i _ wr => ∃ (j : Nat) (zs : List (BitVec 8)), j ≤ n ∧ Mixed xs ys zs n j ∧ i = .int .i64 j ∧ bt = .int .u16 (go s (xs.take j)).toNat ∧ wr.heap[w.heap.size]? = some (row 5 zs) ∧ Below w.heap.size w wr) (fun _ i _ _ => n - (intOf i).toNat)
    case atStart => exact ⟨0, _, by omega, mixed_start xs ys n, rfl, by simp [go, goBits, allBits], by rw [row_made]; exact new_at rfl _, (Below.refl _ w).alloc (Nat.le_refl _) _⟩
    case round =>
      obtain ⟨j, zs, hj, hmix, rfl, rfl, hg, hB⟩ := hrel
      by_cases hlt : j < n
      · obtain ⟨ba, oa, ca', hva, _, _, hba, hca⟩ := hsa.pos (by omega)
        obtain ⟨bb, ob, cb', hvb, _, _, hbb, hcb⟩ := hsb.pos (by omega)
        obtain ⟨rfl, _, rfl⟩ := Value.slice.inj hva
        obtain ⟨rfl, _, rfl⟩ := Value.slice.inj hvb
        have hxj : xs[j]? = some xs[j] := List.getElem?_eq_getElem (by omega)
        have hyj : ys[j]? = some ys[j] := List.getElem?_eq_getElem (by omega)
        have hzj : zs[j]? = some (zs[j]'(by rw [hmix.1]; exact hlt)) := List.getElem?_eq_getElem _
        have cx := (hB.cell (p := ⟨ba, oa + j, none⟩) hba).trans (hca j (.int .u8 (xs[j].toNat : Int)) (by simp [u8s, hxj]))
        have cy := (hB.cell (p := ⟨bb, ob + j, none⟩) hbb).trans (hcb j (.int .u8 (ys[j].toNat : Int)) (by simp [u8s, hyj]))
        have cz : wr.cell? ⟨w.heap.size, j, none⟩ = some (.int .u8 ((zs[j]'(by rw [hmix.1]; exact hlt)).toNat : Int)) := by rw [cell_at hg]; simp [u8s, hzj]
        have fz := free_at hg j
        have hxr : bits .xor .u8 (xs[j].toNat : Int) (ys[j].toNat : Int) = ((xs[j] ^^^ ys[j] : BitVec 8).toNat : Int) := Bv.bits_xor .u8 rfl xs[j] ys[j]
        have hst := set_at (w := wr.drew) hg j (.int .u8 ((xs[j] ^^^ ys[j]).toNat : Int))
        have hsr : (.cells ((u8s zs).toArray.setIfInBounds j (.int .u8 ((xs[j] ^^^ ys[j]).toNat : Int))) 5 (0, 0) : Obj) = row 5 (zs.set j (xs[j] ^^^ ys[j])) := by
          unfold row; congr 1; simp [u8s, List.map_set]
        rw [hsr] at hst
        have hmn := mixed_next hmix hlt hxj hyj
        have hgj : goBits (Crc.go s (xs.take j)) ((bits8 xs[j]).take 0) = Crc.go s (xs.take j) := rfl
        have hgn := go_next (s := s) hxj
        have hbg := bits8_get xs[j]
        generalize (zs[j]'(by rw [hmix.1]; exact hlt)) = z at *
        generalize xs[j] = x at *
        generalize ys[j] = y at *
        have hB' := hB.drew.setCell (p := ⟨w.heap.size, j, none⟩) (Nat.le_refl _) (.int .u8 ((x ^^^ y).toNat : Int))
        have cx' := (hB'.cell (p := ⟨ba, oa + j, none⟩) hba).trans (hca j (.int .u8 (x.toNat : Int)) (by simp [u8s, hxj]))
        have HX := Lib.hid hxr
        have HGN := Lib.hid hgn
        have hw1 : n < 9223372036854775807 := by omega
        have i1 : (j : Int) < (n : Int) := by omega
        have i2 : (j : Int) < (xs.length : Int) := by omega
        have i3 : (j : Int) < (ys.length : Int) := by omega
        have i0 : (0 : Int) ≤ (j : Int) := by omega
        clear hca hcb hva hvb hsr hzj hgn hgj hg hmix hxj hyj
        rw [show Value.int IntKind.u16 ((Crc.go s (xs.take j)).toNat : Int) = .int .u16 ((goBits (Crc.go s (xs.take j)) ((bits8 x).take 0)).toNat : Int) from rfl]
        generalize Crc.go s (xs.take j) = g0 at *
        go_wp2_with fail
        go_still_tail 11, (by kernel_rfl)
        change wpList _ _ _ _ _ wr.drew
        go_wp2_with fail
        clear cx cy cz fz hB
        have hlb := Lib.hid (fun q => low_beq x q)
        have hgt := Lib.hid (fun q b (h : (bits8 x)[q]? = some b) => go_take g0 _ q b h)
        have HBG := Lib.hid hbg
        clear hbg hxr
        go_loopw [13, 15] (fun bt i w2 => ∃ q : Nat, q ≤ 8 ∧ i = .int .i64 q ∧ bt = .int .u16 (goBits g0 ((bits8 x).take q)).toNat ∧ w2.cell? ⟨ba, oa + j, none⟩ = some (.int .u8 (x.toNat : Int)) ∧ w2.heap[w.heap.size]? = some (row 5 (zs.set j (x ^^^ y))) ∧ Below w.heap.size w w2) (fun _ i _ => 8 - (intOf i).toNat)
        case atStart => exact ⟨0, by omega, rfl, rfl, by first | exact cx' | (rw [HX.out]; exact cx'), by first | exact hst | (rw [HX.out]; exact hst), by first | exact hB' | (rw [HX.out]; exact hB')⟩
        case round =>
          clear cx' hst hB'
          obtain ⟨q, hq, rfl, rfl, cx, hst, hB⟩ := hrel
          by_cases hq8 : q < 8
          · have hl := hlb.out q
            have hn := Lib.hid (hgt.out q _ (HBG.out q hq8))
            generalize x.getLsbD q = bt at *
            generalize goBits g0 ((bits8 x).take q) = gq at *
            go_wp2_with fail
            refine (Bit_c gq bt _).mono ?_
            rintro e w' ⟨rfl, rfl⟩
            go_wp2
            go_roundw
            case rel => exact ⟨q + 1, by omega, by go_num, by rw [hn.out], by assumption, by assumption, by assumption⟩
            case measure => simp [intOf]; omega
          · obtain rfl : q = 8 := by omega
            have hn := HGN.out
            go_wp2
            go_roundw
            case rel => exact ⟨j + 1, _, by omega, hmn, by go_num, by rw [HGN.out], hst, hB⟩
            case measure => simp [intOf]; omega
      · have e : j = n := by omega
        rw [e] at hmix ⊢
        have hz := mixed_all hmix ln1 ln2
        have hzl : zs.length = n := hmix.1
        have htk : ∀ (W : World) (A : Option Addr) (c m : Nat) (l : List (BitVec 8)), SliceAt W 1 (.slice A l.length c) l.length (u8s l) → m ≤ l.length → SliceAt W 1 (.slice A m c) (l.take m).length (u8s (l.take m)) := by
          intro W A c m l h hm
          have := h.take (k := m) hm
          rw [Nat.mul_one] at this
          rw [List.length_take, Nat.min_eq_left hm]
          simpa [u8s, List.map_take] using this
        have T1 := htk wr Aa ca n xs (hsa.later hB) ln1
        have T2 := htk wr Aa ca k xs (hsa.later hB) (by omega)
        have T3 := (hsa.later hB).sub (lo := k) (hi := n) hk2 ln1
        have e3 : n - k = ((xs.drop k).take (n - k)).length := by simp; omega
        rw [Nat.mul_one, Nat.mul_one, show ((u8s xs).drop k).take (n - k) = u8s ((xs.drop k).take (n - k)) by simp [u8s, List.map_take, List.map_drop]] at T3
        obtain ⟨A3, hA3⟩ : ∃ A3, (if ca = k then Aa else Aa.map (·.add k)) = A3 := ⟨_, rfl⟩
        rw [hA3] at T3
        have T3' : SliceAt wr 1 (.slice A3 (n - k) (ca - k)) ((xs.drop k).take (n - k)).length (u8s ((xs.drop k).take (n - k))) := by rw [show ((xs.drop k).take (n - k)).length = n - k from e3.symm]; exact T3
        have T4 := htk wr Ab cb n ys (hsb.later hB) ln2
        have T5 : SliceAt wr 1 (.slice (some ⟨w.heap.size, 0, none⟩) n n) zs.length (u8s zs) := by rw [hzl]; exact sliceAt_blk hg (by simp [u8s, hzl]) (by simp [maxLen]; omega)
        have q1 : Crc.go (Crc.go s (xs.take k)) ((xs.drop k).take (n - k)) = Crc.go s (xs.take n) := by
          rw [← go_append]; congr 1
          have := List.take_add (l := xs) (i := k) (j := n - k)
          rw [show k + (n - k) = n by omega] at this
          exact this.symm
        have q2 : Crc.go (s ^^^ t) zs = Crc.go s (xs.take n) ^^^ Crc.go t (ys.take n) := by rw [hz]; exact go_xor _ _ _ _ (by simp; omega)
        have x1 : bits .xor .u16 (s.toNat : Int) (t.toNat : Int) = ((s ^^^ t : BitVec 16).toNat : Int) := Bv.bits_xor .u16 rfl s t
        have x2 : bits .xor .u16 ((Crc.go s (xs.take n)).toNat : Int) ((Crc.go t (ys.take n)).toNat : Int) = ((Crc.go s (xs.take n) ^^^ Crc.go t (ys.take n) : BitVec 16).toNat : Int) := Bv.bits_xor .u16 rfl _ _
        have x3 : bits .xor .u16 IntKind.u16.max ((Crc.go 0xffff#16 xs).toNat : Int) = ((Crc.sum xs).toNat : Int) := not_16 _
        have G1 := Lib.hid (fun W h => Go_c s (.slice Aa n ca) (xs.take n) W h)
        have G2 := Lib.hid (fun W h => Go_c s (.slice Aa k ca) (xs.take k) W h)
        have G3 := Lib.hid (fun W v h => Go_c (Crc.go s (xs.take k)) v ((xs.drop k).take (n - k)) W h)
        rw [q1] at G3
        have G4 := Lib.hid (fun W h => Go_c t (.slice Ab n cb) (ys.take n) W h)
        have G5 := Lib.hid (fun W h => Go_c (s ^^^ t) (.slice (some ⟨w.heap.size, 0, none⟩) n n) zs W h)
        rw [q2] at G5
        have G6 := Lib.hid (fun W h => Sum_c (.slice Aa xs.length ca) xs W h)
        have G7 := Lib.hid (fun W h => Go_c 0xffff#16 (.slice Aa xs.length ca) xs W h)
        have hT := Lib.hid (And.intro T1 (And.intro T2 (And.intro T3' (And.intro T4 (And.intro T5 (hsa.later hB))))))
        clear T1 T2 T3 T3' T4 T5 q1 q2 hz hzl hmix hg e3 htk hsa hsb
        clear e hj hlt
        have hsg : IntKind.u16.signed = false := rfl
        have i0 : (0 : Int) ≤ (k : Int) := by omega
        have i1 : (k : Int) ≤ (n : Int) := by omega
        have i2 : (k : Int) ≤ (ca : Int) := by omega
        have i3 : (n : Int) ≤ (ca : Int) := by omega
        have i4 : (n : Int) ≤ (cb : Int) := by omega
        have i5 : (0 : Int) ≤ (n : Int) := by omega
        go_wp2_with fail
        refine (G1.out _ hT.out.1).mono ?_
        rintro e w1 ⟨rfl, b1⟩
        go_wp2_with fail
        go_region_held3 (fun _ => True) (exact trivial)
          (first
            | (go_at_call 7; refine (wakes_c _).mono ?_; rintro e w8 ⟨rfl, c8⟩; have b8 := below_step b7 c8; clear c8)
            | (go_at_call 12; refine (G7.out _ (hT.out.2.2.2.2.2.later b6)).mono ?_; rintro e w7 ⟨rfl, c7⟩; have b7 := below_step b6 c7; clear c7)
            | (go_at_call 14; refine (G6.out _ (hT.out.2.2.2.2.2.later b5)).mono ?_; rintro e w6 ⟨rfl, c6⟩; have b6 := below_step b5 c6; clear c6)
            | (go_at_call 12; refine (G4.out _ (hT.out.2.2.2.1.later b4)).mono ?_; rintro e w5 ⟨rfl, c5⟩; have b5 := below_step b4 c5; clear c5)
            | (go_at_call 12; refine (G5.out _ (hT.out.2.2.2.2.1.later b3)).mono ?_; rintro e w4 ⟨rfl, c4⟩; have b4 := below_step b3 c4; clear c4)
            | (go_at_call 12; refine (G3.out _ _ (hT.out.2.2.1.later b2)).mono ?_; rintro e w3 ⟨rfl, c3⟩; have b3 := below_step b2 c3; clear c3)
            | (go_at_call 12; refine (G2.out _ (hT.out.2.1.later b1.drew)).mono ?_; rintro e w2 ⟨rfl, c2⟩; have b2 := below_step b1.drew c2; clear c2))
        go_wp2
        go_ret
        exact ⟨rfl, hB.trans (b8.mono hB.size)⟩

theorem own : ownKnob Try.prog.godebug = none := by kernel_rfl
theorem laidOut : laidOutB Try.prog = true := by kernel_rfl
noncomputable def wit (os : Os) : World := World.holding Try.prog os ⟨#[], #[], []⟩
set_option maxRecDepth 100000 in
theorem lifted (os : Os) (started : os.Started) (H : Type) (enc : TypeId × Value → H) (F : Stop.Interp) :
    ReturnsInHanded {} Try.checked os 5 .any ((OpenSpec.ofChange Rows.crcPartsSpec).preRow enc Try.prog Try.f5 Rows.crcPartsRow.domain false Rows.crcPartsRow.laid) (((OpenSpec.ofChange Rows.crcPartsSpec).at F).post enc Try.prog Try.f5 false true false false) := by
  obtain ⟨x, hx⟩ : ∃ x, DataW.whole enc Try.prog ((wit os).forCall (fun _ _ => 0) ⟨#[], #[.slice none 0 0, .slice none 0 0, .int .i64 0, .int .u16 0, .int .u16 0], []⟩).memory Try.f5.params.toList Rows.crcPartsSpec.vars false (#[.slice none 0 0, .slice none 0 0, .int .i64 0, .int .u16 0, .int .u16 0] : Array Value).toList 8 = some x := Option.isSome_iff_exists.1 (by kernel_rfl)
  refine Fr.lift (C := Try.checked) (s := OpenSpec.ofChange Rows.crcPartsSpec) own started (by kernel_rfl) Try.func5
    (witness_row_at (enc := enc) (C := Try.checked) false (wit os) #[.slice none 0 0, .slice none 0 0, .int .i64 0, .int .u16 0, .int .u16 0] rfl (by kernel_rfl) (by kernel_rfl) (by kernel_rfl)
      (OpenSpec.preRow_of_cond 8 hx rfl (fun k hk => by cases hk) (by kernel_rfl) (laidMet_of_run' 8 (by kernel_rfl) (by kernel_rfl))))
    laidOut (by kernel_rfl) rfl Try.underlying4 rfl rfl ?_ ?_
  · intro ds hds
    match ds, hds with
    | [_, _, _, _, _], _ => rfl
  · intro W base args ds before hval hA hlt _ hz hL
    rw [Try.params5] at hA hval
    obtain ⟨v0, vs0, d0, ds0, p0, q0, hargs, rfl, rfl, h0, r0⟩ := trodAll_cons hA
    obtain ⟨v1, vs1, d1, ds1, p1, q1, rfl, rfl, rfl, h1, r1⟩ := trodAll_cons r0
    obtain ⟨v2, vs2, d2, ds2, p2, q2, rfl, rfl, rfl, h2, r2⟩ := trodAll_cons r1
    obtain ⟨v3, vs3, d3, ds3, p3, q3, rfl, rfl, rfl, h3, r3⟩ := trodAll_cons r2
    obtain ⟨v4, vs4, d4, ds4, p4, q4, rfl, rfl, rfl, h4, r4⟩ := trodAll_cons r3
    obtain ⟨rfl, rfl, rfl⟩ := trodAll_nil r4
    obtain rfl : args = #[v0, v1, v2, v3, v4] := by cases args; simp_all
    obtain ⟨xs, ha⟩ := Bv.open_bytes_arg Try.underlying23 Try.underlying5 (by kernel_rfl) (hval 0 _ v0 rfl rfl) h0
    obtain ⟨ys, hb⟩ := Bv.open_bytes_arg Try.underlying23 Try.underlying5 (by kernel_rfl) (hval 1 _ v1 rfl rfl) h1
    obtain ⟨a2, rfl, rfl, rfl, w2⟩ := open_int Try.underlying3 (hval 2 _ v2 rfl rfl) h2
    obtain ⟨a3, rfl, rfl, rfl, w3⟩ := open_int Try.underlying22 (hval 3 _ v3 rfl rfl) h3
    obtain ⟨a4, rfl, rfl, rfl, w4⟩ := open_int Try.underlying22 (hval 4 _ v4 rfl rfl) h4
    obtain ⟨s, rfl⟩ := Bv.of_u16 w3
    obtain ⟨t, rfl⟩ := Bv.of_u16 w4
    exact walk v0 v1 xs ys a2 s t W ha hb

theorem said : Rows.CrcPartsSaid :=
  OpenClaim.holds_of_cond 5 Try.f5 rfl rfl rfl rfl rfl rfl rfl ⟨rfl, rfl, rfl, rfl, rfl⟩ rfl rfl rfl rfl rfl (by kernel_rfl) Try.func5 (by kernel_rfl)
    (of_decide_eq_true (by kernel_rfl)) (by unfold Func.isWrapper; first | (rw [if_pos (by decide +kernel)]; kernel_rfl) | (rw [if_neg (by decide +kernel)]; exact ⟨rfl, rfl⟩))
    (fun os started H enc _ F => by rw [OpenClaim.pre_eq_preRow]; exact lifted os started H enc F)
#print axioms said
end Go.Proofs.Ytllobcefjlpagaa.crcParts
