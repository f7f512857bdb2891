/- Keys: contracts of the document's flags, Put, Size, row. Nothing that was there is turned. -/
import Derived.Test.YtioggdiicgfoaaaKeyQ
import Derived.Test.YtioggdiicgfoaaaBitsDoc
import Derived.Test.YtioggdiicgfoaaaKeyW
import Derived.Deep.RegionHeld3
import Derived.Deep.DrawnRows
import Derived.Deep.CutRange
namespace Go.Proofs.Ytioggdiicgfoaaa
open Go.RowKit Rf Mem KM Bits Bv Str
attribute [local go_sem ↓] run_max2 run_min2
theorem u8s_get0 {B : List (BitVec 8)} (h : 0 < B.length) : ∃ n : Int, (u8s B)[0]? = some (.int .u8 n) := by
  match B, h with
  | x :: r, _ => exact ⟨_, rfl⟩
theorem sl_far {W W' : World} {s : Nat} {N : Int} {u v : Value} {t : TypeId} {f : Nat × Nat} {B : List (BitVec 8)} (h : SliceAt W 1 v B.length (u8s B)) (hs : W.heap[s]? = some (.cells #[u, .int .i64 N] t f)) (hu : ∀ n, u ≠ .int .u8 n)
    (far : ∀ k, k ≠ s → W'.heap[k]? = W.heap[k]?) : SliceAt W' 1 v B.length (u8s B) := by
  obtain ⟨A, c, rfl, h1, h2, h3, h4⟩ := h
  refine ⟨A, c, rfl, h1, h2, h3, ?_⟩
  rcases Nat.eq_zero_or_pos B.length with h0 | h0
  · exact .inl h0
  rcases h4 with h4 | ⟨b, off, rfl, hlt, hc⟩
  · exact .inl h4
  obtain ⟨n, hn⟩ := u8s_get0 h0
  have hx := hc 0 _ hn
  have hne : b ≠ s := by
    rintro rfl
    rw [cell_at hs] at hx
    match off, hx with
    | 0, hx => simp at hx; exact hu _ hx
    | 1, hx => simp at hx
    | k + 2, hx => simp at hx
  refine .inr ⟨b, off, rfl, ?_, fun i x hx => (World.cell?_of_block (a := ⟨b, off + i, none⟩) (far b hne)).trans (hc i x hx)⟩
  have e := far b hne
  rw [Array.getElem?_eq_getElem hlt] at e
  exact (Array.getElem?_eq_some_iff.1 e).1
theorem far2 (W : World) (s : Nat) (x y : Value) : ∀ k, k ≠ s → ((W.setCell ⟨s, 0, none⟩ x).setCell ⟨s, 1, none⟩ y).heap[k]? = W.heap[k]? := fun k hk => (Below.heap_setCell _ _ _ k hk).trans (Below.heap_setCell _ _ _ k hk)
/-- a variable of bits: its block, what it holds -/
structure XV (s : Nat) (w W : World) (v : Value) (B : List (BitVec 8)) (l : List Bool) : Prop where
  x : W.heap[s]? = some (.cells #[v, .int .i64 (l.length : Int)] 62 (0, 0))
  sl : SliceAt W 1 v B.length (u8s B)
  h : Holds B l
  b : Below w.heap.size w W
theorem XV.later {s : Nat} {w W W' : World} {v : Value} {B : List (BitVec 8)} {l : List Bool} (h : XV s w W v B l) (hb : Below W.heap.size W W') : XV s w W' v B l :=
  ⟨var_later h.x hb, h.sl.later hb, h.h, below_step h.b hb⟩
theorem XV.set {s : Nat} {w W W' : World} {v v' : Value} {B B' : List (BitVec 8)} {l l' : List Bool} {N : Int} (h : XV s w W v B l) (hb : Below W.heap.size W W') (hs : w.heap.size ≤ s) (hl : SliceAt W' 1 v' B'.length (u8s B')) (hH : Holds B' l') (hN : N = l'.length) :
    XV s w ((W'.setCell ⟨s, 0, none⟩ v').setCell ⟨s, 1, none⟩ (.int .i64 N)) v' B' l' := by
  subst hN
  have hx := var_later h.x hb
  obtain ⟨A, c, rfl, _⟩ := h.sl.form
  refine ⟨by rw [set_at (set_at hx 0 _) 1]; simp, sl_far hl hx (fun n e => by cases e) (far2 _ _ _ _), hH, ((below_step h.b hb).setCell hs _).setCell hs _⟩
theorem low32f (b : BitVec 32) (j : Nat) : (Go.bits .and .u32 ((b.toNat : Int) / 2 ^ j) 1 == 1) = b.getLsbD j := by
  have e1 : ((b.toNat : Int) / 2 ^ j) = ((b >>> j).toNat : Int) := by
    rw [BitVec.toNat_ushiftRight, Nat.shiftRight_eq_div_pow]; norm_cast
  have e2 : Go.bits .and .u32 ((b >>> j).toNat : Int) 1 = (((b >>> j) &&& 1#32).toNat : Int) := Bv.bits_and .u32 rfl (b >>> j) 1#32
  rw [e1, e2]
  have e3 : (b >>> j) &&& 1#32 = if b.getLsbD j then 1#32 else 0#32 := by
    rw [BitVec.and_one_eq_setWidth_ofBool_getLsbD]
    simp only [BitVec.getLsbD_ushiftRight, Nat.add_zero]
    cases b.getLsbD j <;> rfl
  rw [e3]
  cases b.getLsbD j <;> rfl
set_option maxHeartbeats 1000000 in
set_option maxRecDepth 100000 in
theorem refflags_c (v : Value) (B : List (BitVec 8)) (l : List Bool) (z : BitVec 32) (n : Nat) (N N' zi : Int) (w : World) (hN : N = l.length) (hN' : N' = ((l.length + n : Nat) : Int)) (hz : zi = z.toNat) (hn : n ≤ 32) (hs : SliceAt w 1 v B.length (u8s B)) (hH : Holds B l) (hl : l.length ≤ 100000) :
    Calls Try.prog 36 #[bv v N, .int .u32 zi, .int .i64 n] w fun e w' => Below w.heap.size w w' ∧
      ∃ A c B', e = .returned (bv (.slice A (B' : List (BitVec 8)).length c) N') ∧ SliceAt w' 1 (.slice A B'.length c) B'.length (u8s B') ∧ Holds B' (l ++ flagsL z n) := by
  subst hN hN' hz
  have B0 : Below w.heap.size w ((w.alloc (.cells #[v, .int .i64 (l.length : Int)] 62)).alloc (.cells #[.slice none 0 0, .int .i64 0] 62)) := below_step (kbelow_new _ _) (kbelow_new _ _)
  have X0 : XV w.heap.size w ((w.alloc (.cells #[v, .int .i64 (l.length : Int)] 62)).alloc (.cells #[.slice none 0 0, .int .i64 0] 62)) v B l :=
    ⟨old_at (new_at rfl _) _, hs.later B0, hH, B0⟩
  have R0 : ((w.alloc (.cells #[v, .int .i64 (l.length : Int)] 62)).alloc (.cells #[.slice none 0 0, .int .i64 0] 62)).heap[w.heap.size + 1]? = some (.cells #[.slice none 0 0, .int .i64 0] 62 (0, 0)) := new_at (by simp) _
  obtain ⟨A, c, rfl, _⟩ := hs.form
  clear hs hH B0
  go_enter Try.func36, Try.ntmps36
  go_wp2
  generalize (w.alloc (.cells #[.slice A B.length c, .int .i64 (l.length : Int)] 62)).alloc (.cells #[.slice none 0 0, .int .i64 0] 62) = V at *
  go_loopw [7] (fun i wr => ∃ (k : Nat) (v' : Value) (B' : List (BitVec 8)), k ≤ n ∧ i = .int .i64 k ∧ XV w.heap.size w wr v' B' (l ++ flagsL z k) ∧ wr.heap[w.heap.size + 1]? = some (.cells #[.slice none 0 0, .int .i64 0] 62 (0, 0))) (fun i _ => n - (intOf i).toNat)
  case atStart => exact ⟨0, _, B, Nat.zero_le _, rfl, by simpa [flagsL] using X0, R0⟩
  case round =>
    clear X0 R0
    obtain ⟨k, v', B', hk, rfl, X, R⟩ := hrel
    have hml : (l ++ flagsL z k).length = l.length + k := by rw [List.length_append, flagsL_length]
    have hx := X.x
    rw [hml] at hx
    have d0 := cell_at hx 0
    have d1 := cell_at hx 1
    have r0 := cell_at R 0
    have r1 := cell_at R 1
    by_cases hlt : k < n
    · have i1 : (k : Int) < (n : Int) := by omega
      have f1 := low32f z k
      have HM := Lib.hid hml
      have bA := kbelow_new wr (.cells #[.bool (z.getLsbD k)] 4)
      have sA := sliceAt_blk (w := wr.alloc (.cells ([.bool (z.getLsbD k)] : List Value).toArray 4)) (cs := [.bool (z.getLsbD k)]) (new_at rfl _) rfl (show 1 ≤ maxLen by decide)
      have HS := Lib.hid (flagsL_succ z k)
      generalize hb : z.getLsbD k = b at *
      generalize (z.toNat : Int) = zi at *
      clear hml hb
      go_wp2_with fail
      refine (refFlags_g v' B' (l ++ flagsL z k) _ [b] _ ((l.length + k + 1 : Nat) : Int) _ (by rw [HM.out]; push_cast; rfl) (by rw [HM.out]; simp) (X.sl.later bA) sA X.h (by rw [HM.out]; omega) (by simp)).mono ?_
      rintro e W2 ⟨b2, A2, c2, B2, rfl, s2, h2⟩
      have bW := below_step bA b2
      have X2 := X.set bW (Nat.le_refl _) s2 h2 (N := ((l.length + k + 1 : Nat) : Int)) (by rw [List.length_append, HM.out]; rfl)
      have hx2 := var_later hx bW
      have R2 := (far2 W2 w.heap.size (.slice A2 B2.length c2) (.int .i64 ((l.length + k + 1 : Nat) : Int)) _ (by omega)).trans (var_later R bW)
      have e0 := free_at hx2 0
      have e1 := free_at hx2 1
      have h0 := cell_at hx2 0
      have h1 := cell_at hx2 1
      clear d0 d1 r0 r1 hx bW b2 bA sA
      go_wp2
      go_roundw
      case rel => exact ⟨k + 1, _, B2, hlt, by go_num, by rw [HS.out, ← List.append_assoc]; exact X2, R2⟩
      case measure => simp [intOf]; omega
    · obtain rfl : k = n := by omega
      have fr0 := free_at R 0
      have fr1 := free_at R 1
      obtain ⟨A2, c2, rfl, _⟩ := X.sl.form
      have HX := Lib.hid X
      have hset : ((wr.setCell ⟨w.heap.size + 1, 0, none⟩ (.slice A2 B'.length c2)).setCell ⟨w.heap.size + 1, 1, none⟩ (.int .i64 ((l.length : Int) + k))).heap[w.heap.size + 1]? = some (.cells #[.slice A2 B'.length c2, .int .i64 ((l.length : Int) + k)] 62 (0, 0)) := by rw [set_at (set_at R 0 _) 1]; simp
      clear X
      go_wp2
      refine bodyPost_ret (res_bits rfl rfl hset) rfl ?_
      refine ⟨(HX.out.b.setCell (by simp) _).setCell (by simp) _, A2, c2, B', by push_cast; rfl, sl_far HX.out.sl R (fun n e => by cases e) (far2 _ _ _ _), HX.out.h⟩
end Go.Proofs.Ytioggdiicgfoaaa
namespace Go.Proofs.Ytioggdiicgfoaaa
open Go.RowKit Rf Mem KM Bits Bv Str
attribute [local go_sem ↓] run_max2 run_min2
theorem few_c (n m r : Int) (w : World) (hr : r = min n m) : Calls Try.prog 25 #[.int .i64 n, .int .i64 m] w fun e w' => e = .returned (.int .i64 r) ∧ w' = w := by
  subst hr
  go_enter Try.func25, Try.ntmps25
  go_wp2
  go_ret
  exact ⟨rfl, rfl⟩
abbrev zBits : Array Value := #[.slice none 0 0, .int .i64 0]
/-- what Put carries -/
structure RP (gx : Nat) (w V : World) (L : List Value) (b : Btn) (v : Value) (B : List (BitVec 8)) (l : List Bool) : Prop where
  lay : V.heap[w.heap.size]? = some (.cells L.toArray 29 (0, 0))
  btn : V.heap[w.heap.size + 1]? = some (.cells (btnV b).toArray 33 (0, 0))
  xv : XV gx w V v B l
  hg : w.heap.size + 2 ≤ gx
theorem RP.later {gx : Nat} {w V V' : World} {L : List Value} {b : Btn} {v : Value} {B : List (BitVec 8)} {l : List Bool} (h : RP gx w V L b v B l) (hb : Below V.heap.size V V') : RP gx w V' L b v B l :=
  ⟨var_later h.lay hb, var_later h.btn hb, h.xv.later hb, h.hg⟩
theorem XV.fill {s : Nat} {w V : World} {u : Value} {N M : Int} {v' : Value} {B' : List (BitVec 8)} {l' : List Bool} (hx : V.heap[s]? = some (.cells #[u, .int .i64 N] 62 (0, 0))) (hu : ∀ n, u ≠ .int .u8 n) (hb : Below w.heap.size w V) (hs : w.heap.size ≤ s) (hl : SliceAt V 1 v' B'.length (u8s B')) (hH : Holds B' l') (hM : M = l'.length) :
    ∃ V', V.setCells s 0 [v', .int .i64 M].toArray.toList = V' ∧ XV s w V' v' B' l' ∧ (∀ k, k ≠ s → V'.heap[k]? = V.heap[k]?) ∧ V.there s 0 [v', Value.int .i64 M].toArray.size := by
  subst hM
  obtain ⟨V', hW, F, bF, far, ths⟩ := fill_new [v', .int .i64 (l'.length : Int)] hx rfl hb hs
  exact ⟨V', hW, ⟨F, sl_far hl hx hu far, hH, bF⟩, far, ths⟩
theorem RP.set {gx : Nat} {w V V' : World} {L : List Value} {b : Btn} {v v' : Value} {B B' : List (BitVec 8)} {l l' : List Bool} {N : Int} (h : RP gx w V L b v B l) (hb : Below V.heap.size V V') (hl : SliceAt V' 1 v' B'.length (u8s B')) (hH : Holds B' l') (hN : N = l'.length) :
    RP gx w ((V'.setCell ⟨gx, 0, none⟩ v').setCell ⟨gx, 1, none⟩ (.int .i64 N)) L b v' B' l' :=
  ⟨(far2 V' gx _ _ _ (by have := h.hg; omega)).trans (var_later h.lay hb), (far2 V' gx _ _ _ (by have := h.hg; omega)).trans (var_later h.btn hb), h.xv.set hb (by have := h.hg; omega) hl hH hN, h.hg⟩
theorem one_bits {v : Value} {A : Option Addr} {n c : Nat} (h : v = .slice A n c) (M : Int) : ([v, Value.int .i64 M].toArray).all (·.oneCell') = true := by subst h; simp [Value.oneCell']
theorem bits_size : (Try.prog.info? 62).map (·.size) = some 2 := by kernel_rfl
theorem rem4 (x : BitVec 8) : (x.toNat : Int).tmod 4 = ((x.toNat % 4 : Nat) : Int) := by rw [Int.tmod_eq_emod_of_nonneg (by omega)]; omega
set_option maxHeartbeats 4000000 in
set_option maxRecDepth 100000 in
theorem refPut_c (L : List Value) (nsec : Nat) (lens : List Nat) (nsig nfl : Nat) (A : Option Addr) (c : Nat) (A1 : Option Addr) (c1 : Nat) (A3 : Option Addr) (c3 : Nat) (ve : Value) (ns ne nc : Nat) (b : Btn) (w : World) (hns : min nsig 12 = ns) (hne : min lens.length 12 = ne) (hnc : min nsec 24 = nc)
    (hb : b.keys.length = 24) (hL : LayN w L nsec lens nsig nfl A c A1 c1 A3 c3 ve) :
    Calls Try.prog 11 #[.agg L.toArray, .agg (btnV b).toArray] w fun e w' => Below w.heap.size w w' ∧ ∃ A c B, e = .returned (.slice A (B : List (BitVec 8)).length c) ∧ SliceAt w' 1 (.slice A B.length c) B.length (u8s B) ∧ Holds B (payBits b ns ne nc) := by
  obtain ⟨Ae, ce, rfl, _⟩ := hL.ea
  have szL := lay_size hL.len
  have szB := btn_size hb
  have B0 : Below w.heap.size w ((w.alloc (.cells L.toArray 29)).alloc (.cells (btnV b).toArray 33)) := below_step (kbelow_new _ _) (kbelow_new _ _)
  have VL : ((w.alloc (.cells L.toArray 29)).alloc (.cells (btnV b).toArray 33)).heap[w.heap.size]? = some (.cells L.toArray 29 (0, 0)) := old_at (new_at rfl _) _
  have VB : ((w.alloc (.cells L.toArray 29)).alloc (.cells (btnV b).toArray 33)).heap[w.heap.size + 1]? = some (.cells (btnV b).toArray 33 (0, 0)) := new_at (by simp) _
  have l1 : ns ≤ 12 := by omega
  have l2 : ne ≤ 12 := by omega
  have l3 : nc ≤ 24 := by omega
  have q1 : Hid ((ns : Int) = min (nsig : Int) 12) := Lib.hid (m12 hns).symm
  have q2 : Hid ((ne : Int) = min (lens.length : Int) 12) := Lib.hid (m12 hne).symm
  have q3 : Hid ((nc : Int) = min (nsec : Int) 24) := Lib.hid (m24 hnc).symm
  have hsec := Lib.hid hL.sec
  have hsig := Lib.hid hL.sig
  have hex := Lib.hid hL.ex
  have HL1 := Lib.hid l1
  have HL2 := Lib.hid l2
  have HL3 := Lib.hid l3
  clear hns hne hnc hL l1 l2 l3
  go_enter Try.func11, Try.ntmps11
  go_upto_region 1 with (fail)
  generalize (w.alloc (.cells L.toArray 29)).alloc (.cells (btnV b).toArray 33) = V at *
  have x0 := cell_list VL hsec.out
  go_wp2_with fail
  refine (few_c _ _ _ _ q3.out).mono ?_
  rintro e V1 ⟨rfl, rfl⟩
  clear x0
  have hszV : w.heap.size + 2 ≤ V1.heap.size := (Array.getElem?_eq_some_iff.1 VB).1
  go_upto_region 2 with (fail)
  go_cut [6] from 12 to 67 (fun v6 wx => ∃ (gx : Nat) (v : Value) (B : List (BitVec 8)), v6 = .pointer (some ⟨gx, 0, none⟩) ∧ RP gx w wx L b v B (flagsL b.ent ns))
  case first =>
    refine wp_region_held_drew (S := (fun w' => w'.cell? ⟨w.heap.size, 1, none⟩ = some (.slice A1 nsig c1) ∧ w'.cell? ⟨w.heap.size + 1, 0, none⟩ = some (.int .u32 b.ent.toNat))) (by kernel_rfl) ?_ (fun hHeld => ?_)
    · exact ⟨cell_list VL hsig.out, cell_list VB rfl⟩
    replace B0 : Below w.heap.size w V1.drew := B0.drew
    have VL' := var_later VL (Below.refl _ V1).drew
    have VB' := var_later VB (Below.refl _ V1).drew
    have hszV' : w.heap.size + 2 ≤ V1.drew.heap.size := hszV
    clear VL VB hszV
    generalize V1.drew = V at *
    refine wpAnyH_take (i := 0) (v := ?_) rfl (by kernel_rfl) (by kernel_rfl) (by kernel_rfl) (fun _ _ _ h => h) (Or.inl ⟨by rfl, ?_⟩) (by assumption) ?_
    rotate_left
    · intro w hSw
      try dsimp only at hSw
      go_simp
      try with_reducible rfl
    simp only [List.getElem_toArray, List.getElem_cons_succ, List.getElem_cons_zero, Act.put, List.setIfInBounds_toArray, List.set_cons_zero, List.set_cons_succ]
    refine wpAnyH_take (i := 1) (v := ?_) rfl (by kernel_rfl) (by kernel_rfl) (by kernel_rfl) (fun _ _ _ h => h) (Or.inl ⟨by rfl, ?_⟩) (by assumption) ?_
    rotate_left
    · intro w hSw
      try dsimp only at hSw
      go_simp
      try with_reducible rfl
    simp only [List.getElem_toArray, List.getElem_cons_succ, List.getElem_cons_zero, Act.put, List.setIfInBounds_toArray, List.set_cons_zero, List.set_cons_succ]
    refine wpAnyH_take (i := 2) (v := ?_) rfl (by kernel_rfl) (by kernel_rfl) (by kernel_rfl) (fun _ _ _ h => h) (Or.inl ⟨by rfl, ?_⟩) (by assumption) ?_
    rotate_left
    · intro w hSw
      try dsimp only at hSw
      go_simp
      try with_reducible rfl
    simp only [List.getElem_toArray, List.getElem_cons_succ, List.getElem_cons_zero, Act.put, List.setIfInBounds_toArray, List.set_cons_zero, List.set_cons_succ]
    refine wpAnyH_take (i := 3) (v := ?_) rfl (by kernel_rfl) (by kernel_rfl) (by kernel_rfl) (fun _ _ _ h => h) (Or.inl ⟨by rfl, ?_⟩) (by assumption) ?_
    rotate_left
    · intro w hSw
      try dsimp only at hSw
      go_simp
      try with_reducible rfl
    simp only [List.getElem_toArray, List.getElem_cons_succ, List.getElem_cons_zero, Act.put, List.setIfInBounds_toArray, List.set_cons_zero, List.set_cons_succ]
    refine wpAnyH_take (i := 4) (v := ?_) rfl (by kernel_rfl) (by kernel_rfl) (by kernel_rfl) (fun _ _ _ h => h) (Or.inl ⟨by rfl, ?_⟩) (by assumption) ?_
    rotate_left
    · intro w hSw
      try dsimp only at hSw
      go_simp
      try with_reducible rfl
    simp only [List.getElem_toArray, List.getElem_cons_succ, List.getElem_cons_zero, Act.put, List.setIfInBounds_toArray, List.set_cons_zero, List.set_cons_succ]
    refine wpAnyH_take (i := 5) (v := ?_) rfl (by kernel_rfl) (by kernel_rfl) (by kernel_rfl) (fun _ _ _ h => h) (Or.inl ⟨by rfl, ?_⟩) (by assumption) ?_
    rotate_left
    · intro w hSw
      try dsimp only at hSw
      go_simp
      try with_reducible rfl
    simp only [List.getElem_toArray, List.getElem_cons_succ, List.getElem_cons_zero, Act.put, List.setIfInBounds_toArray, List.set_cons_zero, List.set_cons_succ]
    clear hHeld
    refine wpAnyH_ready (rs := [6, 8]) (by kernel_rfl) (by simp) ?_
    refine AllReadyH.cons rfl (fun K hK => ?_) (AllReadyH.cons rfl (fun K hK => ?_) AllReadyH.nil)
    · skip
      refine Node.wp_fn 25 [.tmp 17, .const (.int .i64 12)] _ [.int .i64 nsig, .int .i64 12] (by rfl) (by rfl) (enters Try.func25 (by kernel_rfl) rfl) (few_c _ _ _ _ q1.out) ?_
      rintro e V' ⟨rfl, rfl⟩
      refine ⟨_, rfl, ?_⟩
      generalize V' = V at *
      refine hK.out _ _ ⟨cell_list VL' hsig.out, cell_list VB' rfl⟩ (fun _ => ?_)
      clear hK K
      try simp only [List.getElem_toArray, List.getElem_cons_succ, List.getElem_cons_zero, Act.put, List.setIfInBounds_toArray, List.set_cons_zero, List.set_cons_succ]
      refine wpAnyH_ready (rs := [7, 8]) (by kernel_rfl) (by simp) ?_
      refine AllReadyH.cons rfl (fun K hK => ?_) (AllReadyH.cons rfl (fun K hK => ?_) AllReadyH.nil)
      · skip
        refine Node.wp_fn 36 [.tmp 12, .tmp 14, .tmp 18] _ [bv (.slice none 0 0) 0, .int .u32 b.ent.toNat, .int .i64 ns] (by rfl) (by rfl) (enters Try.func36 (by kernel_rfl) rfl) (refflags_c (.slice none 0 0) [] [] b.ent ns 0 ((ns : Nat) : Int) _ V rfl (by simp) rfl (by have := HL1.out; omega) (SliceAt.nil_ _ _) holds_nil (by simp)) ?_
        rintro e V' ⟨bF, Aq, cq, Bq, rfl, sq, hq⟩
        refine ⟨_, rfl, ?_⟩
        replace B0 := below_step B0 bF
        replace VL' := var_later VL' bF
        replace VB' := var_later VB' bF
        replace hszV' := Nat.le_trans hszV' bF.size
        try replace GX := var_later GX bF
        clear bF
        generalize V' = V at *
        refine hK.out _ _ ⟨cell_list VL' hsig.out, cell_list VB' rfl⟩ (fun _ => ?_)
        clear hK K
        try simp only [List.getElem_toArray, List.getElem_cons_succ, List.getElem_cons_zero, Act.put, List.setIfInBounds_toArray, List.set_cons_zero, List.set_cons_succ]
        refine wpAnyH_ready (rs := [8]) (by kernel_rfl) (by simp) ?_
        refine AllReadyH.cons rfl (fun K hK => ?_) AllReadyH.nil
        have GX := new_at (w := V) rfl (.cells zBits 62)
        have bF := kbelow_new V (.cells zBits 62)
        have hgx : w.heap.size + 2 ≤ V.heap.size := hszV'
        refine Node.wp_new 62 (.agg zBits) zBits (by kernel_rfl) rfl (by rfl) ?_
        replace B0 := below_step B0 bF
        replace VL' := var_later VL' bF
        replace VB' := var_later VB' bF
        replace hszV' := Nat.le_trans hszV' bF.size
        try replace sq := sq.later bF
        clear bF
        generalize V.heap.size = gx at *
        generalize V.alloc (.cells zBits 62) = V at *
        refine hK.out _ _ ⟨cell_list VL' hsig.out, cell_list VB' rfl⟩ (fun _ => ?_)
        clear hK K
        try simp only [List.getElem_toArray, List.getElem_cons_succ, List.getElem_cons_zero, Act.put, List.setIfInBounds_toArray, List.set_cons_zero, List.set_cons_succ]
        refine wpAnyH_ready (rs := [9]) (by kernel_rfl) (by simp) ?_
        refine AllReadyH.cons rfl (fun K hK => ?_) AllReadyH.nil
        obtain ⟨V', hW, X, far, ths⟩ := XV.fill (M := ((ns : Nat) : Int)) GX (fun n e => by cases e) B0 (by omega) sq hq (by simp [flagsL_length])
        refine wp_store_mid 62 (.tmp 6) (.tmp 19) (by rfl) gx 0 [Value.slice Aq Bq.length cq, .int .i64 ((ns : Nat) : Int)].toArray (by rfl) (by rfl) ths bits_size (one_bits rfl _) ?_
        rw [hW]
        have R : RP gx w V' L b _ Bq (flagsL b.ent ns) := ⟨(far _ (by omega)).trans VL', (far _ (by omega)).trans VB', X, hgx⟩
        clear hW ths far VL' VB' GX
        refine hK.out _ _ ⟨cell_list R.lay hsig.out, cell_list R.btn rfl⟩ (fun _ => ?_)
        clear hK K
        try simp only [List.getElem_toArray, List.getElem_cons_succ, List.getElem_cons_zero, Act.put, List.setIfInBounds_toArray, List.set_cons_zero, List.set_cons_succ]
        refine wpAnyH_done (by kernel_rfl) ?_ _
        go_wp2_with fail
        go_meet
        exact ⟨gx, _, Bq, rfl, R⟩
      · skip
        have GX := new_at (w := V) rfl (.cells zBits 62)
        have bF := kbelow_new V (.cells zBits 62)
        have hgx : w.heap.size + 2 ≤ V.heap.size := hszV'
        refine Node.wp_new 62 (.agg zBits) zBits (by kernel_rfl) rfl (by rfl) ?_
        replace B0 := below_step B0 bF
        replace VL' := var_later VL' bF
        replace VB' := var_later VB' bF
        replace hszV' := Nat.le_trans hszV' bF.size
        try replace sq := sq.later bF
        clear bF
        generalize V.heap.size = gx at *
        generalize V.alloc (.cells zBits 62) = V at *
        refine hK.out _ _ ⟨cell_list VL' hsig.out, cell_list VB' rfl⟩ (fun _ => ?_)
        clear hK K
        try simp only [List.getElem_toArray, List.getElem_cons_succ, List.getElem_cons_zero, Act.put, List.setIfInBounds_toArray, List.set_cons_zero, List.set_cons_succ]
        refine wpAnyH_ready (rs := [7]) (by kernel_rfl) (by simp) ?_
        refine AllReadyH.cons rfl (fun K hK => ?_) AllReadyH.nil
        refine Node.wp_fn 36 [.tmp 12, .tmp 14, .tmp 18] _ [bv (.slice none 0 0) 0, .int .u32 b.ent.toNat, .int .i64 ns] (by rfl) (by rfl) (enters Try.func36 (by kernel_rfl) rfl) (refflags_c (.slice none 0 0) [] [] b.ent ns 0 ((ns : Nat) : Int) _ V rfl (by simp) rfl (by have := HL1.out; omega) (SliceAt.nil_ _ _) holds_nil (by simp)) ?_
        rintro e V' ⟨bF, Aq, cq, Bq, rfl, sq, hq⟩
        refine ⟨_, rfl, ?_⟩
        replace B0 := below_step B0 bF
        replace VL' := var_later VL' bF
        replace VB' := var_later VB' bF
        replace hszV' := Nat.le_trans hszV' bF.size
        try replace GX := var_later GX bF
        clear bF
        generalize V' = V at *
        refine hK.out _ _ ⟨cell_list VL' hsig.out, cell_list VB' rfl⟩ (fun _ => ?_)
        clear hK K
        try simp only [List.getElem_toArray, List.getElem_cons_succ, List.getElem_cons_zero, Act.put, List.setIfInBounds_toArray, List.set_cons_zero, List.set_cons_succ]
        refine wpAnyH_ready (rs := [9]) (by kernel_rfl) (by simp) ?_
        refine AllReadyH.cons rfl (fun K hK => ?_) AllReadyH.nil
        obtain ⟨V', hW, X, far, ths⟩ := XV.fill (M := ((ns : Nat) : Int)) GX (fun n e => by cases e) B0 (by omega) sq hq (by simp [flagsL_length])
        refine wp_store_mid 62 (.tmp 6) (.tmp 19) (by rfl) gx 0 [Value.slice Aq Bq.length cq, .int .i64 ((ns : Nat) : Int)].toArray (by rfl) (by rfl) ths bits_size (one_bits rfl _) ?_
        rw [hW]
        have R : RP gx w V' L b _ Bq (flagsL b.ent ns) := ⟨(far _ (by omega)).trans VL', (far _ (by omega)).trans VB', X, hgx⟩
        clear hW ths far VL' VB' GX
        refine hK.out _ _ ⟨cell_list R.lay hsig.out, cell_list R.btn rfl⟩ (fun _ => ?_)
        clear hK K
        try simp only [List.getElem_toArray, List.getElem_cons_succ, List.getElem_cons_zero, Act.put, List.setIfInBounds_toArray, List.set_cons_zero, List.set_cons_succ]
        refine wpAnyH_done (by kernel_rfl) ?_ _
        go_wp2_with fail
        go_meet
        exact ⟨gx, _, Bq, rfl, R⟩
    · skip
      have GX := new_at (w := V) rfl (.cells zBits 62)
      have bF := kbelow_new V (.cells zBits 62)
      have hgx : w.heap.size + 2 ≤ V.heap.size := hszV'
      refine Node.wp_new 62 (.agg zBits) zBits (by kernel_rfl) rfl (by rfl) ?_
      replace B0 := below_step B0 bF
      replace VL' := var_later VL' bF
      replace VB' := var_later VB' bF
      replace hszV' := Nat.le_trans hszV' bF.size
      try replace sq := sq.later bF
      clear bF
      generalize V.heap.size = gx at *
      generalize V.alloc (.cells zBits 62) = V at *
      refine hK.out _ _ ⟨cell_list VL' hsig.out, cell_list VB' rfl⟩ (fun _ => ?_)
      clear hK K
      try simp only [List.getElem_toArray, List.getElem_cons_succ, List.getElem_cons_zero, Act.put, List.setIfInBounds_toArray, List.set_cons_zero, List.set_cons_succ]
      refine wpAnyH_ready (rs := [6]) (by kernel_rfl) (by simp) ?_
      refine AllReadyH.cons rfl (fun K hK => ?_) AllReadyH.nil
      refine Node.wp_fn 25 [.tmp 17, .const (.int .i64 12)] _ [.int .i64 nsig, .int .i64 12] (by rfl) (by rfl) (enters Try.func25 (by kernel_rfl) rfl) (few_c _ _ _ _ q1.out) ?_
      rintro e V' ⟨rfl, rfl⟩
      refine ⟨_, rfl, ?_⟩
      generalize V' = V at *
      refine hK.out _ _ ⟨cell_list VL' hsig.out, cell_list VB' rfl⟩ (fun _ => ?_)
      clear hK K
      try simp only [List.getElem_toArray, List.getElem_cons_succ, List.getElem_cons_zero, Act.put, List.setIfInBounds_toArray, List.set_cons_zero, List.set_cons_succ]
      refine wpAnyH_ready (rs := [7]) (by kernel_rfl) (by simp) ?_
      refine AllReadyH.cons rfl (fun K hK => ?_) AllReadyH.nil
      refine Node.wp_fn 36 [.tmp 12, .tmp 14, .tmp 18] _ [bv (.slice none 0 0) 0, .int .u32 b.ent.toNat, .int .i64 ns] (by rfl) (by rfl) (enters Try.func36 (by kernel_rfl) rfl) (refflags_c (.slice none 0 0) [] [] b.ent ns 0 ((ns : Nat) : Int) _ V rfl (by simp) rfl (by have := HL1.out; omega) (SliceAt.nil_ _ _) holds_nil (by simp)) ?_
      rintro e V' ⟨bF, Aq, cq, Bq, rfl, sq, hq⟩
      refine ⟨_, rfl, ?_⟩
      replace B0 := below_step B0 bF
      replace VL' := var_later VL' bF
      replace VB' := var_later VB' bF
      replace hszV' := Nat.le_trans hszV' bF.size
      try replace GX := var_later GX bF
      clear bF
      generalize V' = V at *
      refine hK.out _ _ ⟨cell_list VL' hsig.out, cell_list VB' rfl⟩ (fun _ => ?_)
      clear hK K
      try simp only [List.getElem_toArray, List.getElem_cons_succ, List.getElem_cons_zero, Act.put, List.setIfInBounds_toArray, List.set_cons_zero, List.set_cons_succ]
      refine wpAnyH_ready (rs := [9]) (by kernel_rfl) (by simp) ?_
      refine AllReadyH.cons rfl (fun K hK => ?_) AllReadyH.nil
      obtain ⟨V', hW, X, far, ths⟩ := XV.fill (M := ((ns : Nat) : Int)) GX (fun n e => by cases e) B0 (by omega) sq hq (by simp [flagsL_length])
      refine wp_store_mid 62 (.tmp 6) (.tmp 19) (by rfl) gx 0 [Value.slice Aq Bq.length cq, .int .i64 ((ns : Nat) : Int)].toArray (by rfl) (by rfl) ths bits_size (one_bits rfl _) ?_
      rw [hW]
      have R : RP gx w V' L b _ Bq (flagsL b.ent ns) := ⟨(far _ (by omega)).trans VL', (far _ (by omega)).trans VB', X, hgx⟩
      clear hW ths far VL' VB' GX
      refine hK.out _ _ ⟨cell_list R.lay hsig.out, cell_list R.btn rfl⟩ (fun _ => ?_)
      clear hK K
      try simp only [List.getElem_toArray, List.getElem_cons_succ, List.getElem_cons_zero, Act.put, List.setIfInBounds_toArray, List.set_cons_zero, List.set_cons_succ]
      refine wpAnyH_done (by kernel_rfl) ?_ _
      go_wp2_with fail
      go_meet
      exact ⟨gx, _, Bq, rfl, R⟩
  case rest =>
    clear B0 VL VB hszV
    obtain ⟨gx, v, B, rfl, R⟩ := hcut
    go_upto_region 3 with (fail)
    go_cut [] from 12 to 67 (fun wx => ∃ (v : Value) (B : List (BitVec 8)), RP gx w wx L b v B (flagsL b.ent ns ++ flagsL b.exi ne))
    case first =>
      refine wp_region_held_drew (S := (fun w' => w'.cell? ⟨w.heap.size, 2, none⟩ = some (.slice Ae lens.length ce) ∧ w'.cell? ⟨w.heap.size + 1, 1, none⟩ = some (.int .u32 b.exi.toNat))) (by kernel_rfl) ?_ (fun hHeld => ?_)
      · exact ⟨cell_list R.lay hex.out, cell_list R.btn rfl⟩
      replace R : RP gx w wc.drew L b v B (flagsL b.ent ns) := R.later (Below.refl _ wc).drew
      generalize wc.drew = V at *
      refine wpAnyH_take (i := 1) (v := ?_) rfl (by kernel_rfl) (by kernel_rfl) (by kernel_rfl) (fun _ _ _ h => h) (Or.inl ⟨by rfl, ?_⟩) (by assumption) ?_
      rotate_left
      · intro w hSw
        try dsimp only at hSw
        go_simp
        try with_reducible rfl
      simp only [List.getElem_toArray, List.getElem_cons_succ, List.getElem_cons_zero, Act.put, List.setIfInBounds_toArray, List.set_cons_zero, List.set_cons_succ]
      refine wpAnyH_take (i := 2) (v := ?_) rfl (by kernel_rfl) (by kernel_rfl) (by kernel_rfl) (fun _ _ _ h => h) (Or.inl ⟨by rfl, ?_⟩) (by assumption) ?_
      rotate_left
      · intro w hSw
        try dsimp only at hSw
        go_simp
        try with_reducible rfl
      simp only [List.getElem_toArray, List.getElem_cons_succ, List.getElem_cons_zero, Act.put, List.setIfInBounds_toArray, List.set_cons_zero, List.set_cons_succ]
      refine wpAnyH_take (i := 3) (v := ?_) rfl (by kernel_rfl) (by kernel_rfl) (by kernel_rfl) (fun _ _ _ h => h) (Or.inl ⟨by rfl, ?_⟩) (by assumption) ?_
      rotate_left
      · intro w hSw
        try dsimp only at hSw
        go_simp
        try with_reducible rfl
      simp only [List.getElem_toArray, List.getElem_cons_succ, List.getElem_cons_zero, Act.put, List.setIfInBounds_toArray, List.set_cons_zero, List.set_cons_succ]
      refine wpAnyH_take (i := 4) (v := ?_) rfl (by kernel_rfl) (by kernel_rfl) (by kernel_rfl) (fun _ _ _ h => h) (Or.inl ⟨by rfl, ?_⟩) (by assumption) ?_
      rotate_left
      · intro w hSw
        try dsimp only at hSw
        go_simp
        try with_reducible rfl
      simp only [List.getElem_toArray, List.getElem_cons_succ, List.getElem_cons_zero, Act.put, List.setIfInBounds_toArray, List.set_cons_zero, List.set_cons_succ]
      refine wpAnyH_take (i := 5) (v := ?_) rfl (by kernel_rfl) (by kernel_rfl) (by kernel_rfl) (fun _ _ _ h => h) (Or.inl ⟨by rfl, ?_⟩) (by assumption) ?_
      rotate_left
      · intro w hSw
        try dsimp only at hSw
        go_simp
        try with_reducible rfl
      simp only [List.getElem_toArray, List.getElem_cons_succ, List.getElem_cons_zero, Act.put, List.setIfInBounds_toArray, List.set_cons_zero, List.set_cons_succ]
      clear hHeld
      refine wpAnyH_ready (rs := [0, 6]) (by kernel_rfl) (by simp) ?_
      refine AllReadyH.cons rfl (fun K hK => ?_) (AllReadyH.cons rfl (fun K hK => ?_) AllReadyH.nil)
      · skip
        refine wp_load_mid 62 (.tmp 6) (by rfl) gx 0 (by rfl) [v, .int .i64 ((flagsL b.ent ns).length : Int)] _ (range_of R.xv.x) Try.underlying62 rfl bits_size ?_
        refine hK.out _ _ ⟨cell_list R.lay hex.out, cell_list R.btn rfl⟩ (fun _ => ?_)
        clear hK K
        try simp only [List.getElem_toArray, List.getElem_cons_succ, List.getElem_cons_zero, Act.put, List.setIfInBounds_toArray, List.set_cons_zero, List.set_cons_succ]
        refine wpAnyH_ready (rs := [6]) (by kernel_rfl) (by simp) ?_
        refine AllReadyH.cons rfl (fun K hK => ?_) AllReadyH.nil
        refine Node.wp_fn 25 [.tmp 25, .const (.int .i64 12)] _ [.int .i64 lens.length, .int .i64 12] (by rfl) (by rfl) (enters Try.func25 (by kernel_rfl) rfl) (few_c _ _ _ _ q2.out) ?_
        rintro e V' ⟨rfl, rfl⟩
        refine ⟨_, rfl, ?_⟩
        generalize V' = V at *
        refine hK.out _ _ ⟨cell_list R.lay hex.out, cell_list R.btn rfl⟩ (fun _ => ?_)
        clear hK K
        try simp only [List.getElem_toArray, List.getElem_cons_succ, List.getElem_cons_zero, Act.put, List.setIfInBounds_toArray, List.set_cons_zero, List.set_cons_succ]
        refine wpAnyH_ready (rs := [7]) (by kernel_rfl) (by simp) ?_
        refine AllReadyH.cons rfl (fun K hK => ?_) AllReadyH.nil
        refine Node.wp_fn 36 [.tmp 20, .tmp 22, .tmp 26] _ [bv v ((flagsL b.ent ns).length : Int), .int .u32 b.exi.toNat, .int .i64 ne] (by rfl) (by rfl) (enters Try.func36 (by kernel_rfl) rfl) (refflags_c v B _ b.exi ne _ _ _ V rfl rfl rfl (by have := HL2.out; omega) R.xv.sl R.xv.h (by rw [flagsL_length]; have := HL1.out; omega)) ?_
        rintro e V' ⟨bF, Aq, cq, Bq, rfl, sq, hq⟩
        refine ⟨_, rfl, ?_⟩
        replace R := R.later bF
        clear bF
        generalize V' = V at *
        refine hK.out _ _ ⟨cell_list R.lay hex.out, cell_list R.btn rfl⟩ (fun _ => ?_)
        clear hK K
        try simp only [List.getElem_toArray, List.getElem_cons_succ, List.getElem_cons_zero, Act.put, List.setIfInBounds_toArray, List.set_cons_zero, List.set_cons_succ]
        refine wpAnyH_ready (rs := [8]) (by kernel_rfl) (by simp) ?_
        refine AllReadyH.cons rfl (fun K hK => ?_) AllReadyH.nil
        obtain ⟨Ax, cx, hvx, _⟩ := R.xv.sl.form
        obtain ⟨V', hW, X, far, ths⟩ := XV.fill (M := (((flagsL b.ent ns).length + ne : Nat) : Int)) R.xv.x (fun n e => by rw [hvx] at e; cases e) R.xv.b (by have := R.hg; omega) sq hq (by simp only [List.length_append, flagsL_length])
        refine wp_store_mid 62 (.tmp 6) (.tmp 27) (by rfl) gx 0 [Value.slice Aq Bq.length cq, .int .i64 (((flagsL b.ent ns).length + ne : Nat) : Int)].toArray (by rfl) (by rfl) ths bits_size (one_bits rfl _) ?_
        rw [hW]
        have R2 : RP gx w V' L b _ Bq (flagsL b.ent ns ++ flagsL b.exi ne) := ⟨(far _ (by have := R.hg; omega)).trans R.lay, (far _ (by have := R.hg; omega)).trans R.btn, X, R.hg⟩
        clear hW ths far R
        refine hK.out _ _ ⟨cell_list R2.lay hex.out, cell_list R2.btn rfl⟩ (fun _ => ?_)
        clear hK K
        try simp only [List.getElem_toArray, List.getElem_cons_succ, List.getElem_cons_zero, Act.put, List.setIfInBounds_toArray, List.set_cons_zero, List.set_cons_succ]
        refine wpAnyH_done (by kernel_rfl) ?_ _
        go_wp2_with fail
        go_meet
        exact ⟨_, Bq, R2⟩
      · skip
        refine Node.wp_fn 25 [.tmp 25, .const (.int .i64 12)] _ [.int .i64 lens.length, .int .i64 12] (by rfl) (by rfl) (enters Try.func25 (by kernel_rfl) rfl) (few_c _ _ _ _ q2.out) ?_
        rintro e V' ⟨rfl, rfl⟩
        refine ⟨_, rfl, ?_⟩
        generalize V' = V at *
        refine hK.out _ _ ⟨cell_list R.lay hex.out, cell_list R.btn rfl⟩ (fun _ => ?_)
        clear hK K
        try simp only [List.getElem_toArray, List.getElem_cons_succ, List.getElem_cons_zero, Act.put, List.setIfInBounds_toArray, List.set_cons_zero, List.set_cons_succ]
        refine wpAnyH_ready (rs := [0]) (by kernel_rfl) (by simp) ?_
        refine AllReadyH.cons rfl (fun K hK => ?_) AllReadyH.nil
        refine wp_load_mid 62 (.tmp 6) (by rfl) gx 0 (by rfl) [v, .int .i64 ((flagsL b.ent ns).length : Int)] _ (range_of R.xv.x) Try.underlying62 rfl bits_size ?_
        refine hK.out _ _ ⟨cell_list R.lay hex.out, cell_list R.btn rfl⟩ (fun _ => ?_)
        clear hK K
        try simp only [List.getElem_toArray, List.getElem_cons_succ, List.getElem_cons_zero, Act.put, List.setIfInBounds_toArray, List.set_cons_zero, List.set_cons_succ]
        refine wpAnyH_ready (rs := [7]) (by kernel_rfl) (by simp) ?_
        refine AllReadyH.cons rfl (fun K hK => ?_) AllReadyH.nil
        refine Node.wp_fn 36 [.tmp 20, .tmp 22, .tmp 26] _ [bv v ((flagsL b.ent ns).length : Int), .int .u32 b.exi.toNat, .int .i64 ne] (by rfl) (by rfl) (enters Try.func36 (by kernel_rfl) rfl) (refflags_c v B _ b.exi ne _ _ _ V rfl rfl rfl (by have := HL2.out; omega) R.xv.sl R.xv.h (by rw [flagsL_length]; have := HL1.out; omega)) ?_
        rintro e V' ⟨bF, Aq, cq, Bq, rfl, sq, hq⟩
        refine ⟨_, rfl, ?_⟩
        replace R := R.later bF
        clear bF
        generalize V' = V at *
        refine hK.out _ _ ⟨cell_list R.lay hex.out, cell_list R.btn rfl⟩ (fun _ => ?_)
        clear hK K
        try simp only [List.getElem_toArray, List.getElem_cons_succ, List.getElem_cons_zero, Act.put, List.setIfInBounds_toArray, List.set_cons_zero, List.set_cons_succ]
        refine wpAnyH_ready (rs := [8]) (by kernel_rfl) (by simp) ?_
        refine AllReadyH.cons rfl (fun K hK => ?_) AllReadyH.nil
        obtain ⟨Ax, cx, hvx, _⟩ := R.xv.sl.form
        obtain ⟨V', hW, X, far, ths⟩ := XV.fill (M := (((flagsL b.ent ns).length + ne : Nat) : Int)) R.xv.x (fun n e => by rw [hvx] at e; cases e) R.xv.b (by have := R.hg; omega) sq hq (by simp only [List.length_append, flagsL_length])
        refine wp_store_mid 62 (.tmp 6) (.tmp 27) (by rfl) gx 0 [Value.slice Aq Bq.length cq, .int .i64 (((flagsL b.ent ns).length + ne : Nat) : Int)].toArray (by rfl) (by rfl) ths bits_size (one_bits rfl _) ?_
        rw [hW]
        have R2 : RP gx w V' L b _ Bq (flagsL b.ent ns ++ flagsL b.exi ne) := ⟨(far _ (by have := R.hg; omega)).trans R.lay, (far _ (by have := R.hg; omega)).trans R.btn, X, R.hg⟩
        clear hW ths far R
        refine hK.out _ _ ⟨cell_list R2.lay hex.out, cell_list R2.btn rfl⟩ (fun _ => ?_)
        clear hK K
        try simp only [List.getElem_toArray, List.getElem_cons_succ, List.getElem_cons_zero, Act.put, List.setIfInBounds_toArray, List.set_cons_zero, List.set_cons_succ]
        refine wpAnyH_done (by kernel_rfl) ?_ _
        go_wp2_with fail
        go_meet
        exact ⟨_, Bq, R2⟩
    case rest =>
      clear R
      obtain ⟨v2, B2, R⟩ := hcut
      obtain ⟨l2, hl2⟩ : ∃ l2, flagsL b.ent ns ++ flagsL b.exi ne = l2 := ⟨_, rfl⟩
      rw [hl2] at R
      have HLe2 : Hid (l2.length = ns + ne) := Lib.hid (by rw [← hl2, List.length_append, flagsL_length, flagsL_length])
      have HL2q := Lib.hid hl2
      clear hl2
      have d0 := cell_at R.xv.x 0
      have d1 := cell_at R.xv.x 1
      have z2 := cell_list R.btn (i := 2) (v := .int .u32 b.via.toNat) rfl
      go_wp2_with fail
      refine (refflags_c v2 B2 l2 b.via nc _ ((l2.length : Int) + (nc : Int)) _ _ rfl (by push_cast; rfl) rfl (by have := HL3.out; omega) R.xv.sl R.xv.h (by have := HLe2.out; have := HL1.out; have := HL2.out; omega)).mono ?_
      rintro e V4 ⟨b4, A4, c4, B4, rfl, s4, h4⟩
      have hx2 := var_later R.xv.x b4
      have e0 := free_at hx2 0
      have e1 := free_at hx2 1
      have h0 := cell_at hx2 0
      have h1 := cell_at hx2 1
      have R4 := R.set b4 s4 h4 (N := (l2.length : Int) + (nc : Int)) (by simp only [List.length_append, flagsL_length]; push_cast; rfl)
      clear d0 d1 z2
      go_upto_region 5 with (fail)
      clear e0 e1 h0 h1 hx2 R b4
      generalize (V4.setCell ⟨gx, 0, none⟩ (.slice A4 B4.length c4)).setCell ⟨gx, 1, none⟩ (.int .i64 ((l2.length : Int) + (nc : Int))) = V5 at *
      obtain ⟨l3, hl3⟩ : ∃ l3, l2 ++ flagsL b.via nc = l3 := ⟨_, rfl⟩
      rw [hl3] at R4
      have HLe3 : Hid (l3.length = ns + ne + nc) := Lib.hid (by rw [← hl3, List.length_append, flagsL_length, HLe2.out])
      have HL3q := Lib.hid hl3
      clear hl3 s4 h4
      have R := R4
      clear R4
      have d0 := cell_at R.xv.x 0
      have d1 := cell_at R.xv.x 1
      have z3 := cell_list R.btn (i := 3) (v := .bool b.can) rfl
      have z4 := cell_list R.btn (i := 4) (v := .bool b.aut) rfl
      have bA := kbelow_new V5 (.cells #[.bool b.can, .bool b.aut] 4)
      have sA := sliceAt_blk (w := V5.alloc (.cells ([.bool b.can, .bool b.aut] : List Value).toArray 4)) (cs := [.bool b.can, .bool b.aut]) (new_at rfl _) rfl (show 2 ≤ maxLen by decide)
      go_wp2_with fail
      refine (refFlags_g _ B4 l3 _ [b.can, b.aut] _ ((l3.length : Int) + 2) _ rfl (by push_cast; rfl) (R.xv.sl.later bA) sA R.xv.h (by have := HLe3.out; have := HL1.out; have := HL2.out; have := HL3.out; omega) (by simp)).mono ?_
      rintro e V6 ⟨b6, A6, c6, B6, rfl, s6, h6⟩
      replace b6 := below_step bA b6
      have hx2 := var_later R.xv.x b6
      have e0 := free_at hx2 0
      have e1 := free_at hx2 1
      have h0 := cell_at hx2 0
      have h1 := cell_at hx2 1
      have R6 := R.set b6 s6 h6 (N := (l3.length : Int) + 2) (by simp)
      clear d0 d1 z3 z4 bA sA
      go_upto_region 6 with (fail)
      clear e0 e1 h0 h1 hx2 R b6
      generalize (V6.setCell ⟨gx, 0, none⟩ (.slice A6 B6.length c6)).setCell ⟨gx, 1, none⟩ (.int .i64 ((l3.length : Int) + 2)) = V7 at *
      obtain ⟨l4, hl4⟩ : ∃ l4, l3 ++ [b.can, b.aut] = l4 := ⟨_, rfl⟩
      rw [hl4] at R6
      have HLe4 : Hid (l4.length = ns + ne + nc + 2) := Lib.hid (by rw [← hl4, List.length_append, HLe3.out]; rfl)
      have HL4q := Lib.hid hl4
      clear hl4 s6 h6
      go_wp2_with fail
      go_loopw [7] (fun i wr => ∃ (k : Nat) (v : Value) (B : List (BitVec 8)), k ≤ nc ∧ i = .int .i64 k ∧ RP gx w wr L b v B (l4 ++ keyBits b.keys k)) (fun i _ => nc - (intOf i).toNat)
      case atStart => exact ⟨0, _, B6, Nat.zero_le _, rfl, by simpa [keyBits] using R6⟩
      case round =>
        clear R6
        obtain ⟨k, v, B, hk, rfl, R⟩ := hrel
        have hml : (l4 ++ keyBits b.keys k).length = ns + ne + nc + 2 + 2 * k := by rw [List.length_append, keyBits_length, HLe4.out]
        have HM := Lib.hid hml
        by_cases hlt : k < nc
        · have i1 : (k : Int) < (nc : Int) := by omega
          have i2 : (k : Int) < 24 := by have := HL3.out; omega
          have hk24 : k < 24 := by omega
          obtain ⟨m, hm⟩ : ∃ m, l4 ++ keyBits b.keys k = m := ⟨_, rfl⟩
          rw [hm] at R hml
          have HMl := Lib.hid hml
          obtain ⟨y, hy⟩ : ∃ y, (b.keys.getD k 0#8) = y := ⟨_, rfl⟩
          have zk := cell_list R.btn (btnV_key (b := b) (i := k) (by omega))
          rw [hy] at zk
          have HS : Hid (m ++ numBits (y.toNat % 4) 2 = l4 ++ keyBits b.keys (k + 1)) := Lib.hid (by rw [keyBits_succ, ← List.append_assoc, hm, hy])
          have hZ := Lib.hid (fun (V : World) (R : RP gx w V L b v B m) => (by have h := cell_list R.btn (btnV_key (b := b) (i := k) (by omega)); rwa [hy] at h : V.cell? ⟨w.heap.size + 1, 5 + k, none⟩ = some (.int .u8 (y.toNat : Int))))
          have hZ2 := Lib.hid (fun (V : World) (v : Value) (B : List (BitVec 8)) (m : List Bool) (R : RP gx w V L b v B m) => (by have h := cell_list R.btn (btnV_key (b := b) (i := k) (by omega)); rwa [hy] at h : V.cell? ⟨w.heap.size + 1, 5 + k, none⟩ = some (.int .u8 (y.toNat : Int))))
          clear hm hy hml hZ HM
          have hr4 := rem4 y
          have hy4 : y.toNat % 4 < 4 := Nat.mod_lt _ (by decide)
          generalize y.toNat % 4 = y4 at *
          have hw4 : IntKind.i64.wrap (y4 : Int) = (y4 : Int) := w64 (by omega)
          have hw5 : IntKind.u8.wrap (y4 : Int) = (y4 : Int) := Bv.wrap_small .u8 rfl (by omega) (show (y4 : Int) < (2 : Int) ^ 8 by omega)
          go_upto_region 9 with (fail)
          refine wp_region_held_drew (S := (fun w' => w'.cell? ⟨w.heap.size + 1, 5 + k, none⟩ = some (.int .u8 (y.toNat : Int)))) (by kernel_rfl) ?_ (fun hHeld => ?_)
          · exact zk
          clear zk
          replace R : RP gx w wr.drew L b v B m := R.later (Below.refl _ wr).drew
          generalize wr.drew = V at *
          refine wpAnyH_take (i := 1) (v := ?_) rfl (by kernel_rfl) (by kernel_rfl) (by kernel_rfl) (fun _ _ _ h => h) (Or.inl ⟨by rfl, ?_⟩) (by assumption) ?_
          rotate_left
          · intro w hSw
            try dsimp only at hSw
            go_simp
            try with_reducible rfl
          simp only [List.getElem_toArray, List.getElem_cons_succ, List.getElem_cons_zero, Act.put, List.setIfInBounds_toArray, List.set_cons_zero, List.set_cons_succ]
          refine wpAnyH_take (i := 2) (v := ?_) rfl (by kernel_rfl) (by kernel_rfl) (by kernel_rfl) (fun _ _ _ h => h) (Or.inl ⟨by rfl, ?_⟩) (by assumption) ?_
          rotate_left
          · intro w hSw
            try dsimp only at hSw
            go_simp
            try with_reducible rfl
          simp only [List.getElem_toArray, List.getElem_cons_succ, List.getElem_cons_zero, Act.put, List.setIfInBounds_toArray, List.set_cons_zero, List.set_cons_succ]
          refine wpAnyH_take (i := 3) (v := ?_) rfl (by kernel_rfl) (by kernel_rfl) (by kernel_rfl) (fun _ _ _ h => h) (Or.inl ⟨by rfl, ?_⟩) (by assumption) ?_
          rotate_left
          · intro w hSw
            try dsimp only at hSw
            go_simp
            try with_reducible rfl
          simp only [List.getElem_toArray, List.getElem_cons_succ, List.getElem_cons_zero, Act.put, List.setIfInBounds_toArray, List.set_cons_zero, List.set_cons_succ]
          refine wpAnyH_take (i := 4) (v := ?_) rfl (by kernel_rfl) (by kernel_rfl) (by kernel_rfl) (fun _ _ _ h => h) (Or.inl ⟨by rfl, ?_⟩) (by assumption) ?_
          rotate_left
          · intro w hSw
            try dsimp only at hSw
            go_simp
            try with_reducible rfl
          simp only [List.getElem_toArray, List.getElem_cons_succ, List.getElem_cons_zero, Act.put, List.setIfInBounds_toArray, List.set_cons_zero, List.set_cons_succ]
          refine wpAnyH_take (i := 5) (v := ?_) rfl (by kernel_rfl) (by kernel_rfl) (by kernel_rfl) (fun _ _ _ h => h) (Or.inl ⟨by rfl, ?_⟩) (by assumption) ?_
          rotate_left
          · intro w hSw
            try dsimp only at hSw
            go_simp
            try with_reducible rfl
          simp only [List.getElem_toArray, List.getElem_cons_succ, List.getElem_cons_zero, Act.put, List.setIfInBounds_toArray, List.set_cons_zero, List.set_cons_succ]
          refine wpAnyH_take (i := 6) (v := ?_) rfl (by kernel_rfl) (by kernel_rfl) (by kernel_rfl) (fun _ _ _ h => h) (Or.inl ⟨by rfl, ?_⟩) (by assumption) ?_
          rotate_left
          · intro w hSw
            try dsimp only at hSw
            go_simp
            try with_reducible rfl
          simp only [List.getElem_toArray, List.getElem_cons_succ, List.getElem_cons_zero, Act.put, List.setIfInBounds_toArray, List.set_cons_zero, List.set_cons_succ]
          clear hHeld
          refine wpAnyH_ready (rs := [0]) (by kernel_rfl) (by simp) ?_
          refine AllReadyH.cons rfl (fun K hK => ?_) AllReadyH.nil
          refine wp_load_mid 62 (.tmp 6) (by rfl) gx 0 (by rfl) [v, .int .i64 (m.length : Int)] _ (range_of R.xv.x) Try.underlying62 rfl bits_size ?_
          refine hK.out _ _ (hZ2.out _ _ _ _ R) (fun _ => ?_)
          clear hK K
          try simp only [List.getElem_toArray, List.getElem_cons_succ, List.getElem_cons_zero, Act.put, List.setIfInBounds_toArray, List.set_cons_zero, List.set_cons_succ]
          refine wpAnyH_ready (rs := [7]) (by kernel_rfl) (by simp) ?_
          refine AllReadyH.cons rfl (fun K hK => ?_) AllReadyH.nil
          refine Node.wp_fn 38 [.tmp 49, .tmp 55, .const (.int .i64 2)] _ [bv v (m.length : Int), .int .i64 (y4 : Int), .int .i64 2] (by rfl) (by rfl) (enters Try.func38 (by kernel_rfl) rfl) (refPut_g v B m y4 2 _ ((m.length : Int) + 2) _ _ V rfl (by push_cast; rfl) rfl rfl R.xv.sl R.xv.h (by have := HMl.out; have := HL1.out; have := HL2.out; have := HL3.out; omega) (by decide) hy4) ?_
          rintro e V' ⟨bF, Aq, cq, Bq, rfl, sq, hq⟩
          refine ⟨_, rfl, ?_⟩
          rw [HS.out] at hq
          refine hK.out _ _ (hZ2.out _ _ _ _ (R.later bF)) (fun hHeld => ?_)
          clear hK K
          try simp only [List.getElem_toArray, List.getElem_cons_succ, List.getElem_cons_zero, Act.put, List.setIfInBounds_toArray, List.set_cons_zero, List.set_cons_succ]
          refine wpAnyH_take (i := 8) (v := ?_) rfl (by kernel_rfl) (by kernel_rfl) (by kernel_rfl) (fun _ _ _ h => h) (Or.inl ⟨by rfl, ?_⟩) (by assumption) ?_
          rotate_left
          · intro w hSw
            try dsimp only at hSw
            go_simp
            try with_reducible rfl
          simp only [List.getElem_toArray, List.getElem_cons_succ, List.getElem_cons_zero, Act.put, List.setIfInBounds_toArray, List.set_cons_zero, List.set_cons_succ]
          refine wpAnyH_take (i := 9) (v := ?_) rfl (by kernel_rfl) (by kernel_rfl) (by kernel_rfl) (fun _ _ _ h => h) (Or.inl ⟨by rfl, ?_⟩) (by assumption) ?_
          rotate_left
          · intro w hSw
            try dsimp only at hSw
            go_simp
            try with_reducible rfl
          simp only [List.getElem_toArray, List.getElem_cons_succ, List.getElem_cons_zero, Act.put, List.setIfInBounds_toArray, List.set_cons_zero, List.set_cons_succ]
          refine wpAnyH_take (i := 10) (v := ?_) rfl (by kernel_rfl) (by kernel_rfl) (by kernel_rfl) (fun _ _ _ h => h) (Or.inl ⟨by rfl, ?_⟩) (by assumption) ?_
          rotate_left
          · intro w hSw
            try dsimp only at hSw
            go_simp
            try with_reducible rfl
          simp only [List.getElem_toArray, List.getElem_cons_succ, List.getElem_cons_zero, Act.put, List.setIfInBounds_toArray, List.set_cons_zero, List.set_cons_succ]
          clear hHeld
          have R1 := R.later bF
          obtain ⟨Ax, cx, hvx, _⟩ := R1.xv.sl.form
          obtain ⟨V2, hW, X, far, ths⟩ := XV.fill (M := (m.length : Int) + 2) R1.xv.x (fun n e => by rw [hvx] at e; cases e) R1.xv.b (by have := R.hg; omega) sq hq (by rw [← HS.out, List.length_append]; rfl)
          have R2 : RP gx w V2 L b _ Bq (l4 ++ keyBits b.keys (k + 1)) := ⟨(far _ (by have := R.hg; omega)).trans R1.lay, (far _ (by have := R.hg; omega)).trans R1.btn, X, R.hg⟩
          refine wpAnyH_ready (rs := [11]) (by kernel_rfl) (by simp) ?_
          refine AllReadyH.cons rfl (fun K hK => ?_) AllReadyH.nil
          refine wp_store_mid 62 (.tmp 6) (.tmp 57) (by rfl) gx 0 [Value.slice Aq Bq.length cq, .int .i64 ((m.length : Int) + 2)].toArray (by rfl) (by rfl) ths bits_size (one_bits rfl _) ?_
          rw [hW]
          refine hK.out _ _ (hZ2.out _ _ _ _ R2) (fun _ => ?_)
          clear hK K
          refine wpAnyH_done (by kernel_rfl) ?_ _
          clear R R1 X far ths hW hZ2 bF sq hq hr4 hvx hw4 hw5
          go_wp2
          go_roundw
          case rel => exact ⟨k + 1, _, Bq, hlt, by go_num, R2⟩
          case measure => simp [intOf]; omega
        · obtain rfl : k = nc := by omega
          have hpay : l4 ++ keyBits b.keys k = payBits b ns ne k := by rw [← HL4q.out, ← HL3q.out, ← HL2q.out]; simp only [payBits, List.append_assoc]
          rw [hpay] at R
          have HPL : Hid ((payBits b ns ne k).length ≤ 900000) := Lib.hid (by rw [payBits_length]; have := HL1.out; have := HL2.out; have := HL3.out; omega)
          have HBl : Hid (B.length ≤ 1000) := Lib.hid (by have := R.xv.h.1; rw [payBits_length] at this; have := HL1.out; have := HL2.out; have := HL3.out; omega)
          clear hpay hml HM
          have d0 := cell_at R.xv.x 0
          have d1 := cell_at R.xv.x 1
          go_wp2_with fail
          refine (refPad_g v B (payBits b ns ne k) _ ((B.length : Int) * 8) _ rfl rfl R.xv.sl R.xv.h HPL.out).mono ?_
          rintro e V8 ⟨b8, A8, c8, rfl, s8⟩
          obtain ⟨Ax, cx, hvx, _⟩ := R.xv.sl.form
          have hx8 := var_later R.xv.x b8
          have s9 := sl_far s8 hx8 (fun n e => by rw [hvx] at e; cases e) (far2 V8 gx (.slice A8 B.length c8) (.int .i64 ((B.length : Int) * 8)))
          have g9 : ((V8.setCell ⟨gx, 0, none⟩ (.slice A8 B.length c8)).setCell ⟨gx, 1, none⟩ (.int .i64 ((B.length : Int) * 8))).heap[gx]? = some (.cells #[.slice A8 B.length c8, .int .i64 ((B.length : Int) * 8)] 62 (0, 0)) := by rw [set_at (set_at hx8 0 _) 1]; simp
          have b9 : Below w.heap.size w ((V8.setCell ⟨gx, 0, none⟩ (.slice A8 B.length c8)).setCell ⟨gx, 1, none⟩ (.int .i64 ((B.length : Int) * 8))) := ((below_step R.xv.b b8).setCell (by have := R.hg; simp; omega) _).setCell (by have := R.hg; simp; omega) _
          have e0 := free_at hx8 0
          have e1 := free_at hx8 1
          have h0 := cell_at hx8 0
          have h1 := cell_at hx8 1
          have HH := Lib.hid R.xv.h
          clear d0 d1
          go_upto_region 11 with (fail)
          clear e0 e1 h0 h1 hx8 R b8 s8 hvx
          generalize (V8.setCell ⟨gx, 0, none⟩ (.slice A8 B.length c8)).setCell ⟨gx, 1, none⟩ (.int .i64 ((B.length : Int) * 8)) = V9 at *
          obtain ⟨i0, hi, hz0, hz1, hz2⟩ := info_parts info_u8
          have hown := own_empty V9 5 1
          have ba := kbelow_new V9 (.cells #[] 5)
          have hsrc := s9.later ba
          have x9 := cell_at (var_later g9 ba) 0
          have hbl := HBl.out
          go_wp2_with (at_builtin; go_loud (refine wpList_append_src (by rfl) (.tmp 64) (.tmp 66) _ (by rfl) V9.heap.size 5 i0 _ 1 1 Try.underlying36 hi hz0 hz1 hz2 rfl (by omega) (.slice (some ⟨V9.heap.size, 0, none⟩) 0 0) 0 [] (by rfl) hown (.slice A8 B.length c8) B.length (u8s B) (by rfl) hsrc (u8s_one B) (by simp only [maxLen]; omega) (by omega) (by simp) ?_; intro v1 w1 ho1 hg1 _; obtain ⟨A1q, c1q, rfl, _, _⟩ := (sliceAt_of_own ho1).form; have hw := below_own (below_step b9 ba) hg1 (by have := (below_step b9 ba).size; omega) (by intro g hg; have e : V9.heap.size = g := Option.some.inj hg; have := b9.size; omega)))
          go_ret
          simp only [Nat.zero_add, List.nil_append] at ho1
          exact ⟨hw, A1q, c1q, B, by simp, sliceAt_of_own ho1, HH.out⟩
end Go.Proofs.Ytioggdiicgfoaaa
namespace Go.Proofs.Ytioggdiicgfoaaa
open Go.RowKit Rf Mem KM Bits Bv Str
attribute [local go_sem ↓] run_max2 run_min2
theorem holds_size {B : List (BitVec 8)} {b : Btn} {ns ne nc : Nat} (h : Holds B (payBits b ns ne nc)) : B.length = sizeK ns ne nc := by
  have := h.1
  rw [payBits_length] at this
  unfold sizeK; omega
abbrev zB29 : List Value := btnV zBtn
set_option maxHeartbeats 1000000 in
set_option maxRecDepth 100000 in
theorem refSize_c (L : List Value) (nsec : Nat) (lens : List Nat) (nsig nfl : Nat) (A : Option Addr) (c : Nat) (A1 : Option Addr) (c1 : Nat) (A3 : Option Addr) (c3 : Nat) (ve : Value) (ns ne nc : Nat) (sz : Int) (w : World) (hns : min nsig 12 = ns) (hne : min lens.length 12 = ne) (hnc : min nsec 24 = nc) (hsz : ((sizeK ns ne nc : Nat) : Int) = sz)
    (hL : LayN w L nsec lens nsig nfl A c A1 c1 A3 c3 ve) :
    Calls Try.prog 13 #[.agg L.toArray] w fun e w' => e = .returned (.int .i64 sz) ∧ Below w.heap.size w w' := by
  have szL := lay_size hL.len
  have b0 := kbelow_new w (.cells L.toArray 29)
  have VL : (w.alloc (.cells L.toArray 29)).heap[w.heap.size]? = some (.cells L.toArray 29 (0, 0)) := new_at rfl _
  have RL := range_of VL
  have hL' := hL.later b0
  have HNS := Lib.hid hns
  have HNE := Lib.hid hne
  have HNC := Lib.hid hnc
  have HSZ := Lib.hid hsz
  have hbz := fun W => build_zero W
  clear hns hne hnc hsz hL VL
  go_enter Try.func13, Try.ntmps13
  go_wp2_with (first
    | refine wpList_load_g (by rfl) 29 (.tmp 1) (by rfl) w.heap.size 0 (by rfl) L _ RL Try.underlying29 rfl szL ?_
    | refine wpList_build0 rfl 33 (by rfl) _ (hbz _) ?_
    | fail)
  refine (refPut_c L nsec lens nsig nfl A c A1 c1 A3 c3 ve ns ne nc zBtn _ HNS.out HNE.out HNC.out zBtn_len hL').mono ?_
  rintro e W1 ⟨b1, A4, c4, B, rfl, s1, h1⟩
  have hlen : (B.length : Int) = sz := by rw [holds_size h1, HSZ.out]
  have HB := Lib.hid (below_step b0 b1)
  clear RL hL' b0 b1 s1 h1 hbz
  go_wp2
  go_ret
  exact ⟨rfl, HB.out⟩
theorem refTake1 (v : Value) (B : List (BitVec 8)) (l : List Bool) (N a : Int) (k : Nat) (w : World) (hN : N = l.length) (ha : a = (k : Int)) (hs : SliceAt w 1 v B.length (u8s B)) (hH : Holds B l) (hl : l.length ≤ 1000) (hk : k ≤ 1000) :
    Calls Try.prog 27 #[bv v N, .int .i64 a, .int .i64 1] w fun e w' => Below w.heap.size w w' ∧ ∃ er, e = .returned (.tuple #[.int .i64 ((l.getD k false).toNat : Int), .int .i64 er]) := by
  by_cases h : k + 1 ≤ l.length
  · refine (refTake_g v B l k 1 N a 1 _ w hN ha rfl rfl hs hH (by omega) (by omega) h).mono ?_
    rintro e w' ⟨b, rfl⟩
    exact ⟨b, 0, by rw [num_bit l k (by omega)]⟩
  · refine (refTake_short v B N a 1 w hs (by omega) (by omega) (right_yes hH hN).symm (by omega) (by omega) (by omega) (by omega)).mono ?_
    rintro e w' ⟨b, rfl⟩
    refine ⟨b, 40, ?_⟩
    have : l.getD k false = false := by rw [List.getD_eq_getElem?_getD, List.getElem?_eq_none (by omega)]; rfl
    rw [this]; rfl
set_option maxHeartbeats 1000000 in
set_option maxRecDepth 100000 in
theorem refrow_c (v : Value) (B : List (BitVec 8)) (l : List Bool) (k n : Nat) (N a n' zi : Int) (w : World) (hN : N = l.length) (ha : a = (k : Int)) (hn' : n' = (n : Int)) (hz : zi = ((wordL (l.drop k) n).toNat : Int)) (hs : SliceAt w 1 v B.length (u8s B)) (hH : Holds B l) (hl : l.length ≤ 900) (hk : k ≤ 300) (hn : n ≤ 32) :
    Calls Try.prog 26 #[bv v N, .int .i64 a, .int .i64 n'] w fun e w' => e = .returned (.int .u32 zi) ∧ Below w.heap.size w w' := by
  subst hN ha hn'
  have B0 := kbelow_new w (.cells #[v, .int .i64 (l.length : Int)] 62)
  have X0 : XV w.heap.size w (w.alloc (.cells #[v, .int .i64 (l.length : Int)] 62)) v B l := ⟨new_at rfl _, hs.later B0, hH, B0⟩
  have HL := Lib.hid hl
  have HZI := Lib.hid hz
  obtain ⟨A, c, rfl, _⟩ := hs.form
  clear hs hH B0 hl hz
  go_enter Try.func26, Try.ntmps26
  go_wp2
  generalize w.alloc (.cells #[.slice A B.length c, .int .i64 (l.length : Int)] 62) = V at *
  go_loopw [7, 8] (fun r i wr => ∃ j : Nat, j ≤ n ∧ i = .int .i64 j ∧ r = .int .u32 (wordL (l.drop k) j).toNat ∧ XV w.heap.size w wr (.slice A B.length c) B l) (fun _ i _ => n - (intOf i).toNat)
  case atStart => exact ⟨0, Nat.zero_le _, rfl, rfl, X0⟩
  case round =>
    obtain ⟨j, hj, rfl, rfl, X⟩ := hrel
    clear X0
    by_cases hlt : j < n
    · have i1 : (j : Int) < (n : Int) := by omega
      have d0 := cell_at X.x 0
      have d1 := cell_at X.x 1
      have hll := HL.out
      obtain ⟨r, hr⟩ : ∃ r : Int, r = (((l.getD (k + j) false).toNat : Nat) : Int) := ⟨_, rfl⟩
      have hor := or_bit (fun i => (l.drop k).getD i false) j (by omega) r (by rw [hr]; simp [List.getD, List.getElem?_drop])
      have hrb : 0 ≤ r ∧ r ≤ 1 := by rw [hr]; cases l.getD (k + j) false <;> simp
      have hrw : IntKind.u32.wrap r = r := Bv.wrap_small .u32 rfl hrb.1 (show r < (2 : Int) ^ 32 by omega)
      obtain ⟨z, hz⟩ : ∃ z : Int, z = (((wordL (l.drop k) j).toNat : Nat) : Int) := ⟨_, rfl⟩
      obtain ⟨z', hz'⟩ : ∃ z' : Int, z' = (((wordL (l.drop k) (j + 1)).toNat : Nat) : Int) := ⟨_, rfl⟩
      have hor2 : Go.bits .or .u32 z (r * 2 ^ j % 4294967296) = z' := by rw [hz, hz']; exact hor
      rw [← hz]
      have HZ := Lib.hid hz'
      have HR := Lib.hid hr
      have HX := Lib.hid X
      clear hor hr hz hz' X
      go_wp2_with fail
      refine (refTake1 _ B l _ ((k : Int) + j) (k + j) _ rfl (by push_cast; rfl) HX.out.sl HX.out.h (by have := HL.out; omega) (by omega)).mono ?_
      rintro e W1 ⟨b1, er, rfl⟩
      rw [← HR.out]
      have HX1 := Lib.hid (HX.out.later b1)
      clear d0 d1 b1 hll
      go_wp2
      go_roundw
      case rel => exact ⟨j + 1, by omega, by go_num, by rw [← HZ.out], HX1.out⟩
      case measure => simp [intOf]; omega
    · obtain rfl : j = n := by omega
      have HX := Lib.hid X
      rw [← HZI.out]
      clear X
      go_wp2
      go_ret
      exact ⟨rfl, HX.out.b⟩
end Go.Proofs.Ytioggdiicgfoaaa
namespace Go.Proofs.Ytioggdiicgfoaaa
open Go.RowKit Rf Mem KM Bits Bv Str
def key2 (l : List Bool) (k : Nat) : Nat := if k + 2 ≤ l.length then num ((l.drop k).take 2) else 0
theorem key2_lt (l : List Bool) (k : Nat) : key2 l k < 4 := by
  unfold key2
  split
  · exact num_two_lt _ (by simp; omega)
  · decide
def keyS (l : List Bool) (k : Nat) : BitVec 8 := BitVec.ofNat 8 (key2 l k)
theorem keyS_nat (l : List Bool) (k : Nat) : (keyS l k).toNat = key2 l k := by
  unfold keyS; rw [BitVec.toNat_ofNat]; have := key2_lt l k; omega
theorem keyS_at (l : List Bool) (k : Nat) (h : k + 2 ≤ l.length) : keyS l k = keyAt l k := by
  unfold keyS key2 keyAt; rw [if_pos h]
/-- the buttons that bits tell, the first j keys alone; where bits lack, 0 -/
def rdS (l : List Bool) (ns ne nc j : Nat) : Btn :=
  ⟨wordL l ns, wordL (l.drop ns) ne, wordL (l.drop (ns + ne)) nc, l.getD (ns + ne + nc) false, l.getD (ns + ne + nc + 1) false, (List.range 24).map fun i => if i < j then keyS l (ns + ne + nc + 2 + 2 * i) else 0#8⟩
theorem rdS_len (l : List Bool) (ns ne nc j : Nat) : (rdS l ns ne nc j).keys.length = 24 := by simp [rdS]
theorem rdS_zero (l : List Bool) (ns ne nc : Nat) : rdS l ns ne nc 0 = ⟨wordL l ns, wordL (l.drop ns) ne, wordL (l.drop (ns + ne)) nc, l.getD (ns + ne + nc) false, l.getD (ns + ne + nc + 1) false, List.replicate 24 0#8⟩ := rfl
theorem rdS_succ (l : List Bool) (ns ne nc j : Nat) (hj : j < 24) : { rdS l ns ne nc j with keys := (rdS l ns ne nc j).keys.set j (keyS l (ns + ne + nc + 2 + 2 * j)) } = rdS l ns ne nc (j + 1) := by
  unfold rdS
  simp only [Btn.mk.injEq, true_and]
  apply List.ext_getElem?
  intro i
  rw [List.getElem?_set]
  by_cases hi : i < 24
  · by_cases e : j = i
    · subst e; simp [hi]
    · simp only [if_neg e, List.getElem?_map, List.getElem?_range hi, Option.map_some]
      congr 1
      by_cases h1 : i < j
      · rw [if_pos h1, if_pos (by omega)]
      · rw [if_neg h1, if_neg (by omega)]
  · simp [hi]
    intro h; omega
theorem rdS_full (l : List Bool) (ns ne nc : Nat) (h : ns + ne + 3 * nc + 2 ≤ l.length) : rdS l ns ne nc nc = rdB l ns ne nc := by
  unfold rdS rdB
  simp only [Btn.mk.injEq, true_and]
  apply List.map_congr_left
  intro i _
  by_cases hi : i < nc
  · rw [if_pos hi, if_pos hi, keyS_at _ _ (by omega)]
  · rw [if_neg hi, if_neg hi]
theorem refTake2 (v : Value) (B : List (BitVec 8)) (l : List Bool) (N a r : Int) (k : Nat) (w : World) (hN : N = l.length) (ha : a = (k : Int)) (hr : r = ((key2 l k : Nat) : Int)) (hs : SliceAt w 1 v B.length (u8s B)) (hH : Holds B l) (hl : l.length ≤ 1000) (hk : k ≤ 1000) :
    Calls Try.prog 27 #[bv v N, .int .i64 a, .int .i64 2] w fun e w' => Below w.heap.size w w' ∧ ∃ er, e = .returned (.tuple #[.int .i64 r, .int .i64 er]) := by
  by_cases h : k + 2 ≤ l.length
  · refine (refTake_g v B l k 2 N a 2 r w hN ha rfl (by rw [hr, key2, if_pos h]) hs hH (by omega) (by omega) h).mono ?_
    rintro e w' ⟨b, rfl⟩
    exact ⟨b, 0, rfl⟩
  · refine (refTake_short v B N a 2 w hs (by omega) (by omega) (right_yes hH hN).symm (by omega) (by omega) (by omega) (by omega)).mono ?_
    rintro e w' ⟨b, rfl⟩
    exact ⟨b, 40, by rw [hr, key2, if_neg h]; rfl⟩
end Go.Proofs.Ytioggdiicgfoaaa
