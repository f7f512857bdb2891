/- FrameBack: for every argument the statement's Go text returns true and turns nothing that was there. It is proved at every argument, without a condition beyond the row. -/
import Derived.Test.YtbjhmaefjgihlaaFrmW
import Derived.Test.YtbjhmaefjgihlaaFrmG
import Derived.Test.YtbjhmaefjgihlaaFrmArg
import Derived.Test.YtbjhmaefjgihlaaFrame
import Derived.Deep.RegionHeld3
import Derived.Deep.DrawnRows
namespace Go.Proofs.Ytbjhmaefjgihlaa.frameBack
open Go.ChangeShapes Go.WideShapes Go.ChangeAt Go.RowKit Rf
attribute [local go_sem ↓] run_max2 run_min2
open Mem Bv Crc Str
theorem modAt (at_ : Int) (n : Nat) (h0 : 0 < n) (hn : n ≤ 100000) : ∃ (r : Int) (k : Nat), Int.tmod at_ (n : Int) = r ∧ -(n : Int) ≤ r ∧ r ≤ n ∧ Int.tmod (r + n) (n : Int) = (k : Int) ∧ k < n := by
  have h1 : Int.tmod at_ (n : Int) < (n : Int) := Int.tmod_lt_of_pos _ (by omega)
  have h2 : -(n : Int) < Int.tmod at_ (n : Int) := by
    have := Int.tmod_lt_of_pos (-at_) (b := (n : Int)) (by omega)
    rw [Int.neg_tmod] at this; omega
  generalize Int.tmod at_ (n : Int) = r at *
  have h3 : 0 ≤ Int.tmod (r + n) (n : Int) := Int.tmod_nonneg _ (by omega)
  have h4 : Int.tmod (r + n) (n : Int) < (n : Int) := Int.tmod_lt_of_pos _ (by omega)
  exact ⟨r, (Int.tmod (r + n) (n : Int)).toNat, rfl, by omega, by omega, by omega, by omega⟩
theorem xor_shl (y : BitVec 8) (r : Nat) (hr : r < 8) : bits .xor .u8 (y.toNat : Int) (2 ^ r % 256) = ((y ^^^ (1#8 <<< r) : BitVec 8).toNat : Int) := by
  have h : ((2 : Int) ^ r % 256) = ((1#8 <<< r : BitVec 8).toNat : Int) := by
    rcases r with _ | _ | _ | _ | _ | _ | _ | _ | r <;> first | rfl | omega
  rw [h]; exact Bv.bits_xor .u8 rfl y _
theorem low16 (b : BitVec 16) (j : Nat) : (bits .and .u16 ((b.toNat : Int) / 2 ^ j) 1 == 1) = b.getLsbD j := by
  rw [shr_bv, and1_16]
  have h : (b >>> j).getLsbD 0 = decide ((b >>> j).toNat % 2 = 1) := by rw [BitVec.getLsbD, Nat.testBit_zero]
  rw [BitVec.getLsbD_ushiftRight, Nat.add_zero] at h
  rw [h]
  rcases Nat.mod_two_eq_zero_or_one (b >>> j).toNat with e | e <;> rw [e] <;> rfl
theorem takeV_zero {b : List (BitVec 8)} (h : (takeV b).2.2.2 ≠ 0) : takeV b = (0#8, 0#8, [], (takeV b).2.2.2) := by
  unfold takeV at h ⊢
  split
  · rfl
  · rename_i h5
    rw [if_neg h5] at h
    split
    · rfl
    · rename_i he
      rw [if_neg he] at h
      split
      · rename_i k s n p heq
        rw [heq] at h
        dsimp only at h
        split
        · rename_i hc; rw [if_pos hc] at h; exact absurd rfl h
        · rfl
      · rfl
theorem Take_v (v : Value) (b : List (BitVec 8)) (k s : BitVec 8) (p : List (BitVec 8)) (er k' s' : Int) (w : World) (hk : k' = k.toNat) (hs' : s' = s.toNat) (hs : SliceAt w 1 v b.length (u8s b)) (hb : takeV b = (k, s, p, er)) (hl2 : b.length ≤ 140737488355328) :
    Calls Try.prog 11 #[v] w fun e w' => Below w.heap.size w w' ∧ ∃ A c, e = .returned (.tuple #[fv k' s' (.slice A p.length c), .int .i64 er]) ∧ SliceAt w' 1 (.slice A p.length c) p.length (u8s p) := by
  by_cases h : er = 0
  · subst h; exact Take_yes k s k' s' v p b w hk hs' hs hb hl2
  · have hz := takeV_zero (b := b) (by rw [hb]; exact h)
    rw [hb] at hz
    simp only [Prod.mk.injEq] at hz
    obtain ⟨rfl, rfl, rfl, _⟩ := hz
    subst hk hs'
    refine (Take_no v b er w hs (by rw [hb]) h hl2).mono ?_
    rintro e w' ⟨b1, rfl⟩
    exact ⟨b1, none, 0, rfl, SliceAt.nil_ _ _⟩
theorem err_same {c d : List (BitVec 8)} {k i : Nat} (h : Err c d k 0#16 i) : d = c := by
  apply List.ext_getElem?
  intro q
  by_cases hq : q < c.length
  · have hx : c[q]? = some c[q] := List.getElem?_eq_getElem hq
    have hy : d[q]? = some (d[q]'(by rw [h.1]; exact hq)) := List.getElem?_eq_getElem _
    rw [hx, hy]
    congr 1
    apply BitVec.eq_of_getLsbD_eq
    intro r hr
    rw [h.2 q _ _ hx hy r hr]; simp
  · rw [List.getElem?_eq_none (by rw [h.1]; omega), List.getElem?_eq_none (by omega)]
theorem take_hb (k s : BitVec 8) (p : List (BitVec 8)) (h : rightF k.toNat p.length = true) : takeV (Crc.close (hb k s p)) = (k, s, p, 0) := by
  have hl : p.length ≤ 59 := by unfold rightF at h; simp at h; exact h.2
  unfold takeV
  rw [if_neg (by simp [Crc.close, hb]), open_close, if_neg (by simp)]
  dsimp only [hb]
  rw [if_pos]
  rw [h, Bool.true_and, beq_iff_eq, BitVec.toNat_ofNat, Nat.mod_eq_of_lt (by omega)]
theorem take_err {d : List (BitVec 8)} (h : (openV d).2 = 42) (hl : 5 ≤ d.length) : takeV d = (0#8, 0#8, [], 42) := by
  unfold takeV
  rw [if_neg (by omega), if_pos (by rw [h]; decide), h]
set_option maxHeartbeats 4000000 in
set_option maxRecDepth 100000 in
theorem walk_good (kf sf : BitVec 8) (v : Value) (p : List (BitVec 8)) (at_ : Int) (by_ : BitVec 16) (w : World) (hs : SliceAt w 1 v p.length (u8s p)) (hrf : rightF kf.toNat p.length = true) : Calls Try.prog 4 #[fv kf.toNat sf.toNat v, .int .i64 at_, .int .u16 by_.toNat] w fun e w' => e = .returned (.bool true) ∧ Below w.heap.size w w' := by
  obtain ⟨i0, hi, hz0, hz1, hz2⟩ := info_parts info_u8
  have hl59 : p.length ≤ 59 := by have := hrf; unfold rightF at this; simp at this; exact this.2
  have hbl : (hb kf sf p).length = p.length + 3 := by simp [hb]
  obtain ⟨bs, hbs⟩ : ∃ bs, hb kf sf p = bs := ⟨_, rfl⟩
  have htk := take_hb kf sf p hrf
  rw [hbs] at hbl htk
  have HBS := Lib.hid hbs
  have HTK := Lib.hid htk
  have HRF := Lib.hid hrf
  clear hbs htk hrf
  obtain ⟨N, hN, hN0, hNb⟩ : ∃ N : Nat, 8 * ((p.length : Int) + 5) - 15 = (N : Int) ∧ 0 < N ∧ N + 15 ≤ 8 * (bs.length + 2) := ⟨8 * (p.length + 5) - 15, by omega, by omega, by omega⟩
  obtain ⟨r, k, hr, hr1, hr2, hk, hk2⟩ := modAt at_ N hN0 (by omega)
  have hne0 : ((N : Int) == 0) = false := by simp; omega
  obtain ⟨L2, hL2⟩ : ∃ L2, L2 = bs.length + 2 := ⟨_, rfl⟩
  have hcl : (Crc.close bs).length = L2 := by simp [Crc.close, hL2]
  have hne : (((L2 : Nat) : Int) != (p.length : Int) + 5) = false := by simp; omega
  have HC := Lib.hid hcl
  have hLb : L2 ≤ p.length + 5 := by omega
  have hLa : p.length + 5 ≤ L2 := by omega
  have hk3 : k + 16 ≤ 8 * (bs.length + 2) := by omega
  have HL := Lib.hid hL2
  have q0 : decide ((300 : Int) < (p.length : Int)) = false := decide_eq_false (by omega)
  have V0 := FVar.new (k := kf.toNat) (s := sf.toNat) hs
  have BB := below_new w (.cells #[.int .u8 (kf.toNat : Int), .int .u8 (sf.toNat : Int), v] 24)
  obtain ⟨A, c, rfl, _⟩ := hs.form
  clear hcl hs hL2 hbl
  go_enter Try.func4, Try.ntmps4
  go_wp2_with fail
  refine (Put_g kf sf _ _ _ p (Crc.close bs) _ rfl rfl (by rw [HBS.out]) V0.sl HRF.out).mono ?_
  rintro e w1 ⟨b1, A1, c1, rfl, S1⟩
  replace V0 := V0.later b1
  replace BB := below_step BB b1
  clear b1
  rw [HC.out] at S1 ⊢
  have x0 := V0.c0
  have x1 := V0.c1
  have x2 := V0.c2
  go_wp2_with fail
  refine (refRight_g _ _ _ p true _ HRF.out V0.sl).mono ?_
  rintro e w2 ⟨rfl, b2⟩
  replace V0 := V0.later b2
  replace S1 := S1.later b2
  replace BB := below_step BB b2
  clear b2 x0 x1 x2
  go_wp2_with fail
  refine (Take_v _ (Crc.close bs) kf sf p 0 _ _ _ rfl rfl (by rw [HC.out]; exact S1) HTK.out (by rw [HC.out]; omega)).mono ?_
  rintro e w3 ⟨b3, A3, c3, rfl, s3⟩
  have V1 := FVar.new (k := kf.toNat) (s := sf.toNat) s3
  replace b3 := below_step b3 (below_new w3 (.cells #[.int .u8 (kf.toNat : Int), .int .u8 (sf.toNat : Int), .slice A3 p.length c3] 24))
  replace V0 := V0.later b3
  replace S1 := S1.later b3
  replace BB := below_step BB b3
  clear b3 s3
  have x0 := V0.c0
  have x1 := V0.c1
  have x2 := V0.c2
  go_wp2_with fail
  generalize w3.alloc (.cells #[.int .u8 (kf.toNat : Int), .int .u8 (sf.toNat : Int), .slice A3 p.length c3] 24) = W3 at *
  refine (refSame_g _ _ _ _ _ _ p p true _ (sameF_refl _ _ _).symm V0.sl V1.sl).mono ?_
  rintro e w4 ⟨rfl, b4⟩
  replace V0 := V0.later b4
  replace S1 := S1.later b4
  replace BB := below_step BB b4
  clear b4 x0 x1 x2 V1
  have x0 := V0.c0
  have x1 := V0.c1
  have x2 := V0.c2
  go_wp2_with fail
  refine (Size_g _ _ _ p (L2 : Int) _ (by rw [HRF.out, if_pos rfl]; omega) V0.sl).mono ?_
  rintro e w5 ⟨rfl, b5⟩
  replace V0 := V0.later b5
  replace S1 := S1.later b5
  replace BB := below_step BB b5
  clear b5 x0 x1 x2
  have x2 := V0.c2
  have hown := own_empty w5 5 1
  have hsrc := S1.later (below_new w5 (.cells #[] 5))
  go_wp2_with (at_builtin; refine wpList_append_src (by rfl) (.tmp 85) (.tmp 86) _ (by rfl) w5.heap.size 5 i0 _ 1 1 Try.underlying22 hi hz0 hz1 hz2 rfl (by omega) (.slice (some ⟨w5.heap.size, 0, none⟩) 0 0) 0 [] (by rfl) hown (.slice A1 L2 c1) L2 (u8s (Crc.close bs)) (by rfl) hsrc (u8s_one _) (by simp only [maxLen]; omega) (by omega) (by simp) ?_; intro v3 w3 ho3 hg3 _)
  have B3 : Below w.heap.size w w3 := BB.trans ((below_own (below_new w5 _) hg3 (by simp) (by intro g hg; cases hg; exact Nat.le_refl _)).mono BB.size)
  simp only [Nat.zero_add, List.nil_append] at ho3
  obtain ⟨g, cap, rfl, hgb, hcap⟩ : ∃ g cap, v3 = .slice (some ⟨g, 0, none⟩) L2 cap ∧ w5.heap.size ≤ g ∧ L2 ≤ cap := by
    rcases ho3.2 with ⟨_, h⟩ | ⟨g, cap, cur, h1, h2, _, h3, _⟩
    · omega
    · exact ⟨g, cap, h1, h2, h3⟩
  have hgw : w.heap.size ≤ g := Nat.le_trans BB.size hgb
  have hfin := fun d (h : Err (Crc.close bs) d k by_ 16) => err_open h hk3
  have HF := Lib.hid hfin
  clear hfin hsrc hown hg3 S1 V0 x2
  go_loopw [13] (fun i wr => ∃ (j : Nat) (d : List (BitVec 8)), j ≤ 16 ∧ i = .int .i64 j ∧ Err (Crc.close bs) d k by_ j ∧ wr.ownsRow w5.heap.size 5 1 (.slice (some ⟨g, 0, none⟩) L2 cap) L2 (u8s d) ∧ Below w.heap.size w wr) (fun i _ => 16 - (intOf i).toNat)
  case atStart => exact ⟨0, Crc.close bs, by omega, rfl, err_start _ _ _, ho3, B3⟩
  case round =>
    clear ho3 B3
    obtain ⟨j, d, hj, rfl, he, ho, hB⟩ := hrel
    by_cases hlt : j < 16
    · have hlb := low16 by_ j
      by_cases hb : by_.getLsbD j = true
      · rw [hb] at hlb
        have hdl : d.length = L2 := by rw [he.1, HC.out]
        have hq0 : (k + j) / 8 < d.length := by omega
        have hy : d[(k + j) / 8]? = some d[(k + j) / 8] := List.getElem?_eq_getElem hq0
        have hne2 := err_set he hb (q0 := (k + j) / 8) (r0 := (k + j) % 8) (by omega) (by omega) hy
        have cy : wr.cell? ⟨g, (k + j) / 8, none⟩ = some (.int .u8 (d[(k + j) / 8].toNat : Int)) := by rw [ho.cellAt _ (by omega)]; simp [u8s, hy]
        have fy := ho.frozenAt ((k + j) / 8)
        generalize d[(k + j) / 8] = y at *
        have hst := ho.stored ((k + j) / 8) (.int .u8 ((y ^^^ (1#8 <<< ((k + j) % 8))).toNat : Int))
        clear hdl
        have HE := Lib.hid hne2
        clear hne2 he hb hy ho
        go_wp2_with fail
        rw [xor_shl y _ (Nat.mod_lt _ (by omega))]
        go_roundw
        case rel => exact ⟨j + 1, _, by omega, by go_num, HE.out, by rw [show u8s (d.set ((k + j) / 8) (y ^^^ (1#8 <<< ((k + j) % 8)))) = (u8s d).set ((k + j) / 8) (.int .u8 ((y ^^^ (1#8 <<< ((k + j) % 8))).toNat : Int)) by simp [u8s, List.map_set]]; exact hst.1, hB.setCell hgw _⟩
        case measure => simp [intOf]; omega
      · have hb' : by_.getLsbD j = false := by simpa using hb
        have he2 := err_skip he hb'
        rw [hb'] at hlb
        clear hb' hb he
        go_wp2
        go_roundw
        case rel => exact ⟨j + 1, d, by omega, by go_num, he2, ho, hB⟩
        case measure => simp [intOf]; omega
    · obtain rfl : j = 16 := by omega
      have hf := HF.out d he
      have S3 : SliceAt wr 1 (.slice (some ⟨g, 0, none⟩) L2 cap) d.length (u8s d) := by rw [he.1, HC.out]; exact sliceAt_of_own ho
      have hdl : d.length ≤ 140737488355328 := by rw [he.1, HC.out]; omega
      have hd5 : 5 ≤ d.length := by rw [he.1, HC.out]; omega
      have hcase : ((by_.toNat : Int) == 0) = true ∧ takeV d = (kf, sf, p, 0) ∨ ((by_.toNat : Int) == 0) = false ∧ takeV d = (0#8, 0#8, [], 42) := by
        by_cases hz : by_ = 0#16
        · refine .inl ⟨by rw [hz]; rfl, ?_⟩
          subst hz
          rw [err_same he]; exact HTK.out
        · refine .inr ⟨?_, take_err (by rw [hf.1, if_neg hz]) hd5⟩
          have : by_.toNat ≠ 0 := fun h => hz (BitVec.eq_of_toNat_eq h)
          simp; omega
      clear he ho hf
      rcases hcase with ⟨e2, ht⟩ | ⟨e2, ht⟩
      all_goals
        have HT := Lib.hid ht
        clear ht
        go_wp2_with fail
        refine (Take_v _ d _ _ _ _ _ _ _ rfl rfl S3 HT.out hdl).mono ?_
        rintro e w6 ⟨b6, A6, c6, rfl, _⟩
        have B6 := (hB.trans (b6.mono hB.size))
        go_wp2_with fail
        refine (wakes_c _).mono ?_
        rintro e w7 ⟨rfl, b7⟩
        go_wp2
        go_ret
        exact ⟨rfl, below_step (B6.alloc B6.size _) b7⟩
set_option maxHeartbeats 1000000 in
set_option maxRecDepth 100000 in
theorem walk (kf sf : BitVec 8) (v : Value) (p : List (BitVec 8)) (at_ : Int) (by_ : BitVec 16) (w : World) (hs : SliceAt w 1 v p.length (u8s p)) : Calls Try.prog 4 #[fv kf.toNat sf.toNat v, .int .i64 at_, .int .u16 by_.toNat] w fun e w' => e = .returned (.bool true) ∧ Below w.heap.size w w' := by
  have BB := below_new w (.cells #[.int .u8 (kf.toNat : Int), .int .u8 (sf.toNat : Int), v] 24)
  have V0 := FVar.new (k := kf.toNat) (s := sf.toNat) hs
  by_cases h1 : p.length ≤ 300
  · rcases hr : rightF kf.toNat p.length with _ | _
    · have q0 : decide ((300 : Int) < (p.length : Int)) = false := decide_eq_false (by omega)
      have HR := Lib.hid hr
      obtain ⟨A, c, rfl, _⟩ := hs.form
      clear hs hr
      go_enter Try.func4, Try.ntmps4
      go_wp2_with fail
      refine (Put_bad _ _ _ p _ V0.sl HR.out).mono ?_
      rintro e w1 ⟨b1, rfl⟩
      replace V0 := V0.later b1
      replace BB := below_step BB b1
      have x0 := V0.c0
      have x1 := V0.c1
      have x2 := V0.c2
      go_wp2_with fail
      refine (refRight_g _ _ _ p false _ HR.out V0.sl).mono ?_
      rintro e w2 ⟨rfl, b2⟩
      replace BB := below_step BB b2
      go_wp2_with fail
      refine (wakes_c _).mono ?_
      rintro e w9 ⟨rfl, b9⟩
      go_wp2
      go_ret
      exact ⟨rfl, below_step BB b9⟩
    · exact walk_good kf sf v p at_ by_ w hs hr
  · have q1 : decide ((300 : Int) < (p.length : Int)) = true := decide_eq_true (by omega)
    obtain ⟨A, c, rfl, _⟩ := hs.form
    go_enter Try.func4, Try.ntmps4
    go_wp2_with fail
    refine (wakes_c _).mono ?_
    rintro e w9 ⟨rfl, b9⟩
    go_wp2
    go_ret
    exact ⟨rfl, below_step BB b9⟩

theorem own : ownKnob Try.prog.godebug = none := by kernel_rfl
theorem laidOut : laidOutB Try.prog = true := by kernel_rfl
noncomputable def wit (os : Os) : World := World.holding Try.prog os ⟨#[], #[], []⟩
set_option maxRecDepth 100000 in
theorem lifted (os : Os) (started : os.Started) (H : Type) (enc : TypeId × Value → H) (F : Stop.Interp) :
    ReturnsInHanded {} Try.checked os 4 .any ((OpenSpec.ofChange Rows.frameBackSpec).preRow enc Try.prog Try.f4 Rows.frameBackRow.domain false Rows.frameBackRow.laid) (((OpenSpec.ofChange Rows.frameBackSpec).at F).post enc Try.prog Try.f4 false true false false) := by
  obtain ⟨x, hx⟩ : ∃ x, DataW.whole enc Try.prog ((wit os).forCall (fun _ _ => 0) ⟨#[], #[.agg #[.int .u8 0, .int .u8 0, .slice none 0 0], .int .i64 0, .int .u16 0], []⟩).memory Try.f4.params.toList Rows.frameBackSpec.vars false (#[.agg #[.int .u8 0, .int .u8 0, .slice none 0 0], .int .i64 0, .int .u16 0] : Array Value).toList 8 = some x := Option.isSome_iff_exists.1 (by kernel_rfl)
  refine Fr.lift (C := Try.checked) (s := OpenSpec.ofChange Rows.frameBackSpec) own started (by kernel_rfl) Try.func4
    (witness_row_at (enc := enc) (C := Try.checked) false (wit os) #[.agg #[.int .u8 0, .int .u8 0, .slice none 0 0], .int .i64 0, .int .u16 0] rfl (by kernel_rfl) (by kernel_rfl) (by kernel_rfl)
      (OpenSpec.preRow_of_cond 8 hx rfl (fun k hk => by cases hk) (by kernel_rfl) (laidMet_of_run' 8 (by kernel_rfl) (by kernel_rfl))))
    laidOut (by kernel_rfl) rfl Try.underlying4 rfl rfl ?_ ?_
  · intro ds hds
    match ds, hds with
    | [_, _, _], _ => rfl
  · intro W base args ds before hval hA hlt _ hz hL
    rw [Try.params4] at hA hval
    obtain ⟨v0, vs0, d0, ds0, p0, q0, hargs, rfl, rfl, h0, r0⟩ := trodAll_cons hA
    obtain ⟨v1, vs1, d1, ds1, p1, q1, rfl, rfl, rfl, h1, r1⟩ := trodAll_cons r0
    obtain ⟨v2, vs2, d2, ds2, p2, q2, rfl, rfl, rfl, h2, r2⟩ := trodAll_cons r1
    obtain ⟨rfl, rfl, rfl⟩ := trodAll_nil r2
    obtain rfl : args = #[v0, v1, v2] := by cases args; simp_all
    obtain ⟨k1, s1, u, B, rfl, hB⟩ := open_frame (hval 0 _ v0 rfl rfl) h0
    obtain ⟨a1, rfl, rfl, rfl, w1⟩ := open_int Try.underlying3 (hval 1 _ v1 rfl rfl) h1
    obtain ⟨a2, rfl, rfl, rfl, w2⟩ := open_int Try.underlying38 (hval 2 _ v2 rfl rfl) h2
    obtain ⟨t, rfl⟩ := Bv.of_u16 w2
    exact walk k1 s1 u B a1 t W hB

theorem said : Rows.FrameBackSaid :=
  OpenClaim.holds_of_cond 4 Try.f4 rfl rfl rfl rfl rfl rfl rfl ⟨rfl, rfl, rfl, rfl, rfl⟩ rfl rfl rfl rfl rfl (by kernel_rfl) Try.func4 (by kernel_rfl)
    (of_decide_eq_true (by kernel_rfl)) (by unfold Func.isWrapper; first | (rw [if_pos (by decide +kernel)]; kernel_rfl) | (rw [if_neg (by decide +kernel)]; exact ⟨rfl, rfl⟩))
    (fun os started H enc _ F => by rw [OpenClaim.pre_eq_preRow]; exact lifted os started H enc F)
#print axioms said
end Go.Proofs.Ytbjhmaefjgihlaa.frameBack
