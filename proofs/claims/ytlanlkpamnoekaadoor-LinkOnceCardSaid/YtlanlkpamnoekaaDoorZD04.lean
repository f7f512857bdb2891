/- Contracts of functions and words for memory. Nothing that was there is turned. -/
import Derived.Test.YtlanlkpamnoekaaDoorZD03
import Derived.Test.YtlanlkpamnoekaaDoorZD01
set_option linter.unusedSimpArgs false
set_option linter.unusedVariables false
namespace Go.Proofs.YtlanlkpamnoekaaDoor
open Go.RowKit Rf Mem Bv Bits
set_option maxRecDepth 100000
attribute [local go_sem ↓] run_max2 run_min2
attribute [local go_sem] Oper.semAt_some

/-- the part i of a payload -/
def fld (P : List (BitVec 8)) (i : Nat) : U32 := BitVec.ofNat 32 (num (((bitsOf P).drop (32 * i)).take 32))
def takeInV (P : List (BitVec 8)) : U32 × U32 × U32 × U32 × Int := if P.length = 16 then (fld P 0, fld P 1, fld P 2, fld P 3, 0) else (0, 0, 0, 0, 41)
theorem load_in {W : World} {g : Nat} {a b c d : U32} (h : IVar W g a b c d) : (loadVar 35 ⟨g, 0, none⟩).run Tryd.prog W = .ok (inv a b c d) W := by
  have c0 := h.cell 0 a rfl
  have c1 := h.cell 1 b rfl
  have c2 := h.cell 2 c rfl
  have c3 := h.cell 3 d rfl
  simp [go_sem, c0, c1, c2, c3]
theorem res_in {fn : Func} {t u : Tmp} (hf : fn.results = #[.cell t 35, .tmp u]) {tmps : Array Value} {W : World} {g : Nat} {a b c d : U32} (hs : tmps.getD t undef = .pointer (some ⟨g, 0, none⟩)) (h : IVar W g a b c d) :
    (results fn tmps).run Tryd.prog W = .ok (.tuple #[inv a b c d, tmps.getD u undef]) W := by
  have h1 : tmps[t]?.getD undef = .pointer (some ⟨g, 0, none⟩) := by simpa using hs
  simp [results, hf, h1, asAddr, load_in h]
theorem bodyPostM_in2 {fn : Func} {R : Ending → World → Prop} {t u : Tmp} (hf : fn.results = #[.cell t 35, .tmp u]) {tmps : Array Value} {D g : Nat} {W : World} {a b c d : U32}
    (hD : W.heap[D]? = some (.deferred (some []))) (hs : tmps.getD t undef = .pointer (some ⟨g, 0, none⟩)) (hg : IVar (W.putObj D (.deferred none)) g a b c d)
    (h : R (.returned (.tuple #[inv a b c d, tmps.getD u undef])) (W.putObj D (.deferred none))) :
    bodyPostM Fence.wide 0 Tryd.prog fn R .ret { tmps := tmps, defers := [{ target := .collected D, args := #[] }] } W := by
  refine ⟨by simp, .inl ⟨_, _, rfl, run_takeDeferred hD, ?_⟩⟩
  exact ⟨_, res_in hf hs hg, h⟩
theorem bodyPostM_in0 {fn : Func} {R : Ending → World → Prop} {t u : Tmp} (hf : fn.results = #[.cell t 35, .tmp u]) {tmps : Array Value} {g : Nat} {W : World} {a b c d : U32}
    (hs : tmps.getD t undef = .pointer (some ⟨g, 0, none⟩)) (hg : IVar W g a b c d) (h : R (.returned (.tuple #[inv a b c d, tmps.getD u undef])) W) :
    bodyPostM Fence.wide 0 Tryd.prog fn R .ret { tmps := tmps, defers := [] } W := ⟨_, res_in hf hs hg, h⟩

/-- what has been taken behind i parts -/
def upto (P : List (BitVec 8)) (i k : Nat) : U32 := if k < i then fld P k else 0
theorem fld_lt (P : List (BitVec 8)) (i : Nat) (h : num (((bitsOf P).drop (32 * i)).take 32) < 2 ^ 32) : ((fld P i).toNat : Int) = (num (((bitsOf P).drop (32 * i)).take 32) : Nat) := by
  unfold fld
  rw [BitVec.toNat_ofNat, Nat.mod_eq_of_lt h]
theorem IVar.set {W : World} {g : Nat} {P : List (BitVec 8)} {i : Nat} (h : IVar W g (upto P i 0) (upto P i 1) (upto P i 2) (upto P i 3)) (hi : i < 4) : IVar (W.setCell ⟨g, i, none⟩ (.int .u32 ((fld P i).toNat : Int))) g (upto P (i + 1) 0) (upto P (i + 1) 1) (upto P (i + 1) 2) (upto P (i + 1) 3) := by
  constructor
  rw [set_at h.at_ i]
  match i, hi with
  | 0, _ => simp [upto]
  | 1, _ => simp [upto]
  | 2, _ => simp [upto]
  | 3, _ => simp [upto]

theorem Of_o (v : Value) (B : List (BitVec 8)) (N : Int) (w : World) (hN : N = (B.length : Int) * 8) (hs : SliceAt w 1 v B.length (u8s B)) (hl : B.length ≤ 140737488355328) :
    Calls Tryd.prog 37 #[v] w fun e w' => Below w.heap.size w w' ∧ ∃ A c, e = .returned (Bt.bv (.slice A B.length c) N) ∧ w'.ownsRow w.heap.size 5 1 (.slice A B.length c) B.length (u8s B) := by
  subst hN
  refine (Bt.Of_c v B w hs hl).mono ?_
  rintro e w' ⟨v', rfl, ho, b⟩
  obtain ⟨A, c, rfl, _⟩ := (sliceAt_of_own ho).form
  exact ⟨b, A, c, rfl, ho⟩

set_option maxHeartbeats 1000000 in
theorem TakeIn_c (v : Value) (X : List (BitVec 8)) (a b c d : U32) (er : Int) (w : World) (hr : takeInV X = (a, b, c, d, er)) (hs : SliceAt w 1 v X.length (u8s X)) (hl : X.length ≤ 140737488355328) :
    Calls Tryd.prog 16 #[v] w fun e w' => e = .returned (.tuple #[inv a b c d, .int .i64 er]) ∧ Below w.heap.size w w' := by
  have b1 := below_new w (.cells #[.int .u32 0, .int .u32 0, .int .u32 0, .int .u32 0] 35)
  have V : IVar (w.alloc (.cells #[.int .u32 0, .int .u32 0, .int .u32 0, .int .u32 0] 35)) w.heap.size 0 0 0 0 := ⟨new_at rfl _⟩
  have hz : (w.alloc (.cells #[.int .u32 0, .int .u32 0, .int .u32 0, .int .u32 0] 35)).heap.size = w.heap.size + 1 := by simp
  have hs1 := hs.later b1
  obtain ⟨A, cp, rfl, _⟩ := hs.form
  clear hs
  have HR := Lib.hid hr
  clear hr
  by_cases h16 : X.length = 16
  · have HX := Lib.hid h16
    rw [h16] at hl hs1 ⊢
    clear h16
    refine (callsIn_wide (n := 0)).1 (callsIn_of_wp_marks Tryd.func16 rfl trivial ?_ rfl)
    refine wpIn_wide.2 ?_
    simp only [Tryd.ntmps16, List.size_toArray, List.length_cons, List.length_nil, Nat.reduceAdd, Nat.reduceSub, Array.replicate_succ, Array.replicate_zero, List.push_toArray, List.append_toArray, List.nil_append, List.cons_append]
    go_wp2_with fail
    generalize w.alloc (.cells #[.int .u32 0, .int .u32 0, .int .u32 0, .int .u32 0] 35) = W at *
    refine (Of_o (.slice A 16 cp) X 128 W (by rw [HX.out]; rfl) (by rw [HX.out]; exact hs1) (by rw [HX.out]; omega)).mono ?_
    rintro e W1 ⟨b2, A1, c1, rfl, ho2⟩
    rw [HX.out] at ho2 ⊢
    have hs2 := sliceAt_of_own ho2
    have hq2 : ∀ q, VB (.slice A1 16 c1) 16 q → W.heap.size ≤ q ∧ q < W1.heap.size := fun q hq => own_base ho2 (own_vb hq.2)
    have HQ2 := Lib.hid hq2
    clear ho2 hq2
    have V1 := V.later b2
    have B1 := below_step b1 b2
    have hz1 := b2.size
    have b3 := below_new W1 (.cells #[.slice A1 16 c1, .int .i64 128] 75)
    have g3 : (W1.alloc (.cells #[.slice A1 16 c1, .int .i64 128] 75)).heap[W1.heap.size]? = some _ := new_at rfl _
    have hs3 := hs2.later b3
    have V3 := V1.later b3
    have B3 := below_step B1 b3
    have hz3 : (W1.alloc (.cells #[.slice A1 16 c1, .int .i64 128] 75)).heap.size = W1.heap.size + 1 := by simp
    clear V b1 hs1 b2 V1 B1 b3 hs2
    go_upto_region 4 with (fail)
    generalize W1.alloc (.cells #[.slice A1 16 c1, .int .i64 128] 75) = W2 at *
    go_wp2_with fail
    refine (parts_c w.heap.size W2).mono ?_
    rintro e w' ⟨rfl, rfl⟩
    have b4 := below_new W2 (.cells #[.pointer (some ⟨w.heap.size, 0, none⟩)] 80)
    have g4 : (W2.alloc (.cells #[.pointer (some ⟨w.heap.size, 0, none⟩)] 80)).heap[W2.heap.size]? = some _ := new_at rfl _
    have V4 := V3.later b4
    have B4 := below_step B3 b4
    have hs4 := hs3.later b4
    have g5 := below_at b4 g3 (by omega)
    have hz4 : (W2.alloc (.cells #[.pointer (some ⟨w.heap.size, 0, none⟩)] 80)).heap.size = W2.heap.size + 1 := by simp
    obtain ⟨gx, hgx⟩ : ∃ gx, W1.heap.size = gx := ⟨_, rfl⟩
    obtain ⟨gp, hgp⟩ : ∃ gp, W2.heap.size = gp := ⟨_, rfl⟩
    rw [hgx] at hz1 g3 hz3 g5 ⊢
    rw [hgp] at hz3 g4 hz4 ⊢
    have HQ3 := Lib.hid (show ∀ q, VB (.slice A1 16 c1) 16 q → w.heap.size + 1 ≤ q ∧ q < gx from fun q hq => by have := HQ2.out q hq; omega)
    clear g3 V3 B3 hs3 b4 hgx
    generalize W2.alloc (.cells #[.pointer (some ⟨w.heap.size, 0, none⟩)] 80) = W0 at *
    clear hgp
    subst hz3
    have hHX : Holds X (bitsOf X) := ⟨by rw [bitsOf_length]; omega, 0, by simp⟩
    have hbl : (bitsOf X).length = 128 := by rw [bitsOf_length, HX.out]
    have HHX := Lib.hid hHX
    have HBL := Lib.hid hbl
    clear hHX hbl
    go_wp2_with fail
    refine wp_iter (xs := partL w.heap.size) (Fp := fun _ => False) (Rd := fun k => k = gx + 1) (gf := 55) (lb := #[.pointer (some ⟨gx + 1, 0, none⟩)]) rfl (enters Tryd.func55 (by kernel_rfl) rfl)
      (parts1 _ _) ?hps
      (fun i O W => (∀ k, O k ↔ k = w.heap.size) ∧ IVar W w.heap.size (upto X i 0) (upto X i 1) (upto X i 2) (upto X i 3) ∧ Below w.heap.size w W ∧ W.heap[gx]? = some (.cells #[.slice A1 16 c1, .int .i64 128] 75 (0, 0)) ∧ SliceAt W 1 (.slice A1 16 c1) 16 (u8s X) ∧ ∀ q, VB (.slice A1 16 c1) 16 q → q < W0.heap.size ∧ q ≠ w.heap.size) (fun k => k = w.heap.size) ?hpre ?hO ?hFp ?hI ?h0
      (fun x => { tmps := #[Value.slice A 16 cp, undef, Value.pointer (some { block := w.heap.size, off := 0 }), Value.int IntKind.i64 0,
          Value.pointer (some { block := gx, off := 0 }), x.getD 0 undef, x.getD 1 undef, undef, undef, Value.slice A 16 cp,
          Value.int IntKind.i64 16, Value.bool false, undef, Value.slice A 16 cp, Bt.bv (Value.slice A1 16 c1) 128,
          Value.func (Fn.func 55) #[] #[Value.pointer (some { block := gx + 1, off := 0 })], x.getD 0 undef, x.getD 1 undef, undef, undef,
          undef, undef, undef, undef, undef, undef, undef, undef, undef, undef], defers := [] }) ?assign ?body ?done
    case hps => intro x hx; simp only [partL, List.mem_cons, List.not_mem_nil, or_false] at hx; rcases hx with rfl | rfl | rfl | rfl <;> rfl
    case hpre =>
      intro W hW
      rw [cell_at (below_at hW g4 (by omega))]; rfl
    case hO =>
      rintro k rfl
      exact ⟨by omega, fun h => h, by omega⟩
    case hFp => intro k h; exact h.elim
    case hI =>
      rintro i O W W' ⟨h0, h1, h2, h3, h4, h5⟩ hk
      exact ⟨h0, ⟨hk.at_ h1.at_ (.inl ((h0 _).2 rfl))⟩, below_keep h2 hk (Nat.le_refl _) (fun k h => .inr ⟨by omega, fun h => h⟩), hk.at_ h3 (.inr ⟨by omega, fun h => h⟩), slice_keep h4 hk (fun q hq => .inr ⟨(h5 q hq).1, fun h => h⟩), h5⟩
    case h0 => exact ⟨fun k => Iff.rfl, V4, B4, g5, hs4, fun q hq => by have := HQ3.out q hq; omega⟩
    case assign =>
      intro l' x W K hx hK
      simp only [partL, List.mem_cons, List.not_mem_nil, or_false] at hx
      rcases hx with rfl | rfl | rfl | rfl
      all_goals
        gi_wp2
        exact hK
    case body =>
      rintro l' i x O W hx ⟨h0, h1, h2, h3, h4, h5⟩ hsz'
      have hi : i < 4 := by have := (List.getElem?_eq_some_iff.1 hx).1; simpa [partL] using this
      obtain rfl | rfl | rfl | rfl : i = 0 ∨ i = 1 ∨ i = 2 ∨ i = 3 := by omega
      · obtain rfl : #[.int .i64 0, .pointer (some ⟨w.heap.size, 0, none⟩)] = x := Option.some.inj hx
        clear hx hi
        obtain ⟨R, hR⟩ : ∃ R : Int, R = (num (((bitsOf X).drop 0).take 32) : Nat) := ⟨_, rfl⟩
        have hnl : num (((bitsOf X).drop 0).take 32) < 2 ^ 32 := Nat.lt_of_lt_of_le (num_lt _) (Nat.pow_le_pow_right (by omega) (by rw [List.length_take]; omega))
        have hRf : ((fld X 0).toNat : Int) = R := (fld_lt X 0 hnl).trans hR.symm
        have hR0 : 0 ≤ R ∧ R < 4294967296 := by omega
        have hwr : IntKind.u32.wrap R = R := Bv.wrap_small .u32 rfl (by omega) (by simp [IntKind.bits]; omega)
        have x0 := cell_at h3 0
        have x1 := cell_at h3 1
        have HRR := Lib.hid hR
        have HRF := Lib.hid hRf
        have HWR := Lib.hid hwr
        clear hnl hRf hwr hR hR0
        gi_wp2_with fail
        refine ⟨trivial, rfl, (CallsIn.inRound _ (callsIn_wide.2 (Bt.Take_g (.slice A1 16 c1) X (bitsOf X) 0 32 128 _ _ R W (by rw [HBL.out]; rfl) (by rfl) (by rfl) HRR.out (by rw [HX.out]; exact h4) HHX.out (by rw [HBL.out]; omega) (by omega) (by rw [HBL.out]; omega)))).mono ?_⟩
        rintro e W2 ⟨b2, rfl⟩
        have k1 := h1.later b2
        have k2 := h2.trans (b2.mono (h2.size))
        have k3 := below_at b2 h3 (lt_of_at h3)
        have k4 := h4.later b2
        have hlt := lt_of_at h1.at_
        have c0 := k1.cell 0 (upto X 0 0) rfl
        have f0 := free_at k1.at_ 0
        have hwr := HWR.out
        clear x0 x1 h1 h2 h3 h4
        gi_wp2
        refine ⟨fun k => k = w.heap.size, ⟨fun k => Iff.rfl, ?_, k2.setCell (p := ⟨w.heap.size, 0, none⟩) (Nat.le_refl _) _, set_far k3 (by simp; omega) _, ?_, h5⟩, fun k hk => .inl ((h0 k).2 hk), (Keep.of_below b2 (fun _ h _ => h)).setCell (p := ⟨w.heap.size, 0, none⟩) (fun _ h => h ((h0 _).2 rfl)) _⟩
        · rw [← HRF.out]
          exact k1.set (by omega)
        · exact slice_keep k4 ((Keep.refl (fun q => q ≠ w.heap.size) W2).setCell (p := ⟨w.heap.size, 0, none⟩) (fun _ h => h rfl) _) (fun q hq => (h5 q hq).2)
      · obtain rfl : #[.int .i64 1, .pointer (some ⟨w.heap.size, 1, none⟩)] = x := Option.some.inj hx
        clear hx hi
        obtain ⟨R, hR⟩ : ∃ R : Int, R = (num (((bitsOf X).drop 32).take 32) : Nat) := ⟨_, rfl⟩
        have hnl : num (((bitsOf X).drop 32).take 32) < 2 ^ 32 := Nat.lt_of_lt_of_le (num_lt _) (Nat.pow_le_pow_right (by omega) (by rw [List.length_take]; omega))
        have hRf : ((fld X 1).toNat : Int) = R := (fld_lt X 1 hnl).trans hR.symm
        have hR0 : 0 ≤ R ∧ R < 4294967296 := by omega
        have hwr : IntKind.u32.wrap R = R := Bv.wrap_small .u32 rfl (by omega) (by simp [IntKind.bits]; omega)
        have x0 := cell_at h3 0
        have x1 := cell_at h3 1
        have HRR := Lib.hid hR
        have HRF := Lib.hid hRf
        have HWR := Lib.hid hwr
        clear hnl hRf hwr hR hR0
        gi_wp2_with fail
        refine ⟨trivial, rfl, (CallsIn.inRound _ (callsIn_wide.2 (Bt.Take_g (.slice A1 16 c1) X (bitsOf X) 32 32 128 _ _ R W (by rw [HBL.out]; rfl) (by rfl) (by rfl) HRR.out (by rw [HX.out]; exact h4) HHX.out (by rw [HBL.out]; omega) (by omega) (by rw [HBL.out]; omega)))).mono ?_⟩
        rintro e W2 ⟨b2, rfl⟩
        have k1 := h1.later b2
        have k2 := h2.trans (b2.mono (h2.size))
        have k3 := below_at b2 h3 (lt_of_at h3)
        have k4 := h4.later b2
        have hlt := lt_of_at h1.at_
        have c0 := k1.cell 1 (upto X 1 1) rfl
        have f0 := free_at k1.at_ 1
        have hwr := HWR.out
        clear x0 x1 h1 h2 h3 h4
        gi_wp2
        refine ⟨fun k => k = w.heap.size, ⟨fun k => Iff.rfl, ?_, k2.setCell (p := ⟨w.heap.size, 1, none⟩) (Nat.le_refl _) _, set_far k3 (by simp; omega) _, ?_, h5⟩, fun k hk => .inl ((h0 k).2 hk), (Keep.of_below b2 (fun _ h _ => h)).setCell (p := ⟨w.heap.size, 1, none⟩) (fun _ h => h ((h0 _).2 rfl)) _⟩
        · rw [← HRF.out]
          exact k1.set (by omega)
        · exact slice_keep k4 ((Keep.refl (fun q => q ≠ w.heap.size) W2).setCell (p := ⟨w.heap.size, 1, none⟩) (fun _ h => h rfl) _) (fun q hq => (h5 q hq).2)
      · obtain rfl : #[.int .i64 2, .pointer (some ⟨w.heap.size, 2, none⟩)] = x := Option.some.inj hx
        clear hx hi
        obtain ⟨R, hR⟩ : ∃ R : Int, R = (num (((bitsOf X).drop 64).take 32) : Nat) := ⟨_, rfl⟩
        have hnl : num (((bitsOf X).drop 64).take 32) < 2 ^ 32 := Nat.lt_of_lt_of_le (num_lt _) (Nat.pow_le_pow_right (by omega) (by rw [List.length_take]; omega))
        have hRf : ((fld X 2).toNat : Int) = R := (fld_lt X 2 hnl).trans hR.symm
        have hR0 : 0 ≤ R ∧ R < 4294967296 := by omega
        have hwr : IntKind.u32.wrap R = R := Bv.wrap_small .u32 rfl (by omega) (by simp [IntKind.bits]; omega)
        have x0 := cell_at h3 0
        have x1 := cell_at h3 1
        have HRR := Lib.hid hR
        have HRF := Lib.hid hRf
        have HWR := Lib.hid hwr
        clear hnl hRf hwr hR hR0
        gi_wp2_with fail
        refine ⟨trivial, rfl, (CallsIn.inRound _ (callsIn_wide.2 (Bt.Take_g (.slice A1 16 c1) X (bitsOf X) 64 32 128 _ _ R W (by rw [HBL.out]; rfl) (by rfl) (by rfl) HRR.out (by rw [HX.out]; exact h4) HHX.out (by rw [HBL.out]; omega) (by omega) (by rw [HBL.out]; omega)))).mono ?_⟩
        rintro e W2 ⟨b2, rfl⟩
        have k1 := h1.later b2
        have k2 := h2.trans (b2.mono (h2.size))
        have k3 := below_at b2 h3 (lt_of_at h3)
        have k4 := h4.later b2
        have hlt := lt_of_at h1.at_
        have c0 := k1.cell 2 (upto X 2 2) rfl
        have f0 := free_at k1.at_ 2
        have hwr := HWR.out
        clear x0 x1 h1 h2 h3 h4
        gi_wp2
        refine ⟨fun k => k = w.heap.size, ⟨fun k => Iff.rfl, ?_, k2.setCell (p := ⟨w.heap.size, 2, none⟩) (Nat.le_refl _) _, set_far k3 (by simp; omega) _, ?_, h5⟩, fun k hk => .inl ((h0 k).2 hk), (Keep.of_below b2 (fun _ h _ => h)).setCell (p := ⟨w.heap.size, 2, none⟩) (fun _ h => h ((h0 _).2 rfl)) _⟩
        · rw [← HRF.out]
          exact k1.set (by omega)
        · exact slice_keep k4 ((Keep.refl (fun q => q ≠ w.heap.size) W2).setCell (p := ⟨w.heap.size, 2, none⟩) (fun _ h => h rfl) _) (fun q hq => (h5 q hq).2)
      · obtain rfl : #[.int .i64 3, .pointer (some ⟨w.heap.size, 3, none⟩)] = x := Option.some.inj hx
        clear hx hi
        obtain ⟨R, hR⟩ : ∃ R : Int, R = (num (((bitsOf X).drop 96).take 32) : Nat) := ⟨_, rfl⟩
        have hnl : num (((bitsOf X).drop 96).take 32) < 2 ^ 32 := Nat.lt_of_lt_of_le (num_lt _) (Nat.pow_le_pow_right (by omega) (by rw [List.length_take]; omega))
        have hRf : ((fld X 3).toNat : Int) = R := (fld_lt X 3 hnl).trans hR.symm
        have hR0 : 0 ≤ R ∧ R < 4294967296 := by omega
        have hwr : IntKind.u32.wrap R = R := Bv.wrap_small .u32 rfl (by omega) (by simp [IntKind.bits]; omega)
        have x0 := cell_at h3 0
        have x1 := cell_at h3 1
        have HRR := Lib.hid hR
        have HRF := Lib.hid hRf
        have HWR := Lib.hid hwr
        clear hnl hRf hwr hR hR0
        gi_wp2_with fail
        refine ⟨trivial, rfl, (CallsIn.inRound _ (callsIn_wide.2 (Bt.Take_g (.slice A1 16 c1) X (bitsOf X) 96 32 128 _ _ R W (by rw [HBL.out]; rfl) (by rfl) (by rfl) HRR.out (by rw [HX.out]; exact h4) HHX.out (by rw [HBL.out]; omega) (by omega) (by rw [HBL.out]; omega)))).mono ?_⟩
        rintro e W2 ⟨b2, rfl⟩
        have k1 := h1.later b2
        have k2 := h2.trans (b2.mono (h2.size))
        have k3 := below_at b2 h3 (lt_of_at h3)
        have k4 := h4.later b2
        have hlt := lt_of_at h1.at_
        have c0 := k1.cell 3 (upto X 3 3) rfl
        have f0 := free_at k1.at_ 3
        have hwr := HWR.out
        clear x0 x1 h1 h2 h3 h4
        gi_wp2
        refine ⟨fun k => k = w.heap.size, ⟨fun k => Iff.rfl, ?_, k2.setCell (p := ⟨w.heap.size, 3, none⟩) (Nat.le_refl _) _, set_far k3 (by simp; omega) _, ?_, h5⟩, fun k hk => .inl ((h0 k).2 hk), (Keep.of_below b2 (fun _ h _ => h)).setCell (p := ⟨w.heap.size, 3, none⟩) (fun _ h => h ((h0 _).2 rfl)) _⟩
        · rw [← HRF.out]
          exact k1.set (by omega)
        · exact slice_keep k4 ((Keep.refl (fun q => q ≠ w.heap.size) W2).setCell (p := ⟨w.heap.size, 3, none⟩) (fun _ h => h rfl) _) (fun q hq => (h5 q hq).2)
    case done =>
      rintro D O W3 ⟨h0, h1, h2, h3, h4, h5⟩ hD1 hD2
      have hx := HR.out
      rw [takeInV, if_pos HX.out] at hx
      simp only [Prod.mk.injEq] at hx
      obtain ⟨rfl, rfl, rfl, rfl, rfl⟩ := hx
      have V : IVar W3 w.heap.size (fld X 0) (fld X 1) (fld X 2) (fld X 3) := h1
      have c0 := V.cell 0 _ rfl
      have c1' := V.cell 1 _ rfl
      have c2 := V.cell 2 _ rfl
      have c3 := V.cell 3 _ rfl
      have e0 := free_at V.at_ 0
      have e1 := free_at V.at_ 1
      have e2 := free_at V.at_ 2
      have e3 := free_at V.at_ 3
      have V9 : IVar ((((W3.setCell ⟨w.heap.size, 0, none⟩ (.int .u32 ((fld X 0).toNat : Int))).setCell ⟨w.heap.size, 1, none⟩ (.int .u32 ((fld X 1).toNat : Int))).setCell ⟨w.heap.size, 2, none⟩ (.int .u32 ((fld X 2).toNat : Int))).setCell ⟨w.heap.size, 3, none⟩ (.int .u32 ((fld X 3).toNat : Int))) w.heap.size (fld X 0) (fld X 1) (fld X 2) (fld X 3) := ⟨by
        rw [set_at (set_at (set_at (set_at V.at_ 0 _) 1 _) 2 _) 3 _]; simp⟩
      have B9 := (((h2.setCell (p := ⟨w.heap.size, 0, none⟩) (Nat.le_refl _) (.int .u32 ((fld X 0).toNat : Int))).setCell (p := ⟨w.heap.size, 1, none⟩) (Nat.le_refl _) (.int .u32 ((fld X 1).toNat : Int))).setCell (p := ⟨w.heap.size, 2, none⟩) (Nat.le_refl _) (.int .u32 ((fld X 2).toNat : Int))).setCell (p := ⟨w.heap.size, 3, none⟩) (Nat.le_refl _) (.int .u32 ((fld X 3).toNat : Int))
      have D9 := set_far (set_far (set_far (set_far hD2 (p := ⟨w.heap.size, 0, none⟩) (by simp; omega) (.int .u32 ((fld X 0).toNat : Int))) (p := ⟨w.heap.size, 1, none⟩) (by simp; omega) (.int .u32 ((fld X 1).toNat : Int))) (p := ⟨w.heap.size, 2, none⟩) (by simp; omega) (.int .u32 ((fld X 2).toNat : Int))) (p := ⟨w.heap.size, 3, none⟩) (by simp; omega) (.int .u32 ((fld X 3).toNat : Int))
      have HV9 := Lib.hid V9
      have HB9 := Lib.hid B9
      have HD9 := Lib.hid D9
      clear V9 B9 D9 h0 h1 h2 h3 h4 h5 V
      go_wp2
      exact bodyPostM_in2 (t := 2) (u := 3) rfl HD9.out rfl ⟨(World.putObj_heap_other (by omega)).trans HV9.out.at_⟩ ⟨rfl, below_putObj HB9.out (by omega) _⟩
  · have hne : ((X.length : Int) == 16) = false := by
      rw [beq_eq_false_iff_ne]; omega
    have hx := HR.out
    rw [takeInV, if_neg h16] at hx
    simp only [Prod.mk.injEq] at hx
    obtain ⟨rfl, rfl, rfl, rfl, rfl⟩ := hx
    have HV := Lib.hid V
    have HB := Lib.hid b1
    have c0 := V.cell 0 0 rfl
    have c1 := V.cell 1 0 rfl
    have c2 := V.cell 2 0 rfl
    have c3 := V.cell 3 0 rfl
    have e0 := free_at V.at_ 0
    have e1 := free_at V.at_ 1
    have e2 := free_at V.at_ 2
    have e3 := free_at V.at_ 3
    clear h16 V b1 hz hs1
    refine (callsIn_wide (n := 0)).1 (callsIn_of_wp_marks Tryd.func16 rfl trivial ?_ rfl)
    refine wpIn_wide.2 ?_
    simp only [Tryd.ntmps16, List.size_toArray, List.length_cons, List.length_nil, Nat.reduceAdd, Nat.reduceSub, Array.replicate_succ, Array.replicate_zero, List.push_toArray, List.append_toArray, List.nil_append, List.cons_append]
    go_wp2
    exact bodyPostM_in0 (t := 2) (u := 3) rfl rfl HV.out ⟨rfl, HB.out⟩
end Go.Proofs.YtlanlkpamnoekaaDoor
namespace Go.Proofs.YtlanlkpamnoekaaDoor
open List renaming getElem_toArray → zA, getElem_cons_succ → zS, getElem_cons_zero → zZ, setIfInBounds_toArray → zP, set_cons_zero → zQ, set_cons_succ → zR
open Go.RowKit Rf Mem Bv Crc Str
attribute [local go_sem ↓] run_max2 run_min2
theorem wp_append_src {P : Program} {w : World} {o : Oper} {a : Act} {K : Act → World → Prop} {Q : Exit → Act → World → Prop} (s x : Operand) (t : TypeId)
    (ho : o.op = .call { callee := .builtin .append, args := #[s, x], argTypes := #[t, t] })
    (base : Nat) (e : TypeId) (i : TypeInfo) (z : Value) (size byt : Nat) (ht : P.underlying t = some (.slice e)) (hi : P.info? e = some i) (hz : i.zero = some z)
    (hsize : i.size = size) (hby : i.bytes = byt) (hzs : z.cells.size = size) (hsz : 0 < size)
    (v : Value) (n : Nat) (xs : List Value) (hs : a.eval s = v) (hown : w.ownsRow base e size v n xs) (src : Value) (m : Nat) (news : List Value) (hx : a.eval x = src) (hsrc : SliceAt w size src m news) (h1 : ∀ u ∈ news, u.oneCell' = true)
    (h63 : n + m ≤ maxLen) (hbytes : (n + m) * byt ≤ 140737488355328) (hbase : base ≤ w.heap.size)
    (h : ∀ v' w', w'.ownsRow base e size v' (n + m) (xs ++ news) → w.grownBy w' v.ownBlock → (v'.ownBlock = v.ownBlock ∨ v'.ownBlock = some w.heap.size) → K (a.put o.dst v') w') :
    o.wp P a w K Q := by
  obtain ⟨v', w', hr, h2, h3, h4⟩ := run_append_src (P := P) w base t o.type e i z size byt ht hi hz hsize hby hzs hsz v n xs hown src m news hsrc h1 h63 hbytes hbase
  unfold Oper.wp execOp
  simp only [ho, resolve, invoke, builtin, Sem.run_bind, Sem.run_pure, Result.andThen_ok, List.map_toArray, List.map_cons, List.map_nil, hs, hx, hr]
  exact h v' w' h2 h3 h4
set_option maxHeartbeats 1000000 in
set_option maxRecDepth 100000 in
theorem refTake_short (v : Value) (b : List (BitVec 8)) (w : World) (hs : SliceAt w 1 v b.length (u8s b)) (hl : b.length < 5) :
    Calls Tryd.prog 29 #[v] w fun e w' => Below w.heap.size w w' ∧ e = .returned (.tuple #[fv 0 0 (.slice none 0 0), .int .i64 40]) := by
  have hB := below_new w (.cells #[.int .u8 0, .int .u8 0, .slice none 0 0] 41)
  obtain ⟨A, c, rfl, _⟩ := hs.form
  have q1 : decide ((b.length : Int) < 5) = true := decide_eq_true (by omega)
  clear hs
  have g2 : (w.alloc (.cells #[.int .u8 0, .int .u8 0, .slice none 0 0] 41)).heap[w.heap.size]? = some _ := new_at rfl _
  go_enter Tryd.func29, Tryd.ntmps29
  go_wp2
  exact bodyPost_ret (res_frm2 (t := 2) (u := 3) rfl rfl g2) rfl ⟨hB, rfl⟩
set_option maxHeartbeats 1000000 in
set_option maxRecDepth 100000 in
theorem refTake_crc (v : Value) (b : List (BitVec 8)) (w : World) (hs : SliceAt w 1 v b.length (u8s b)) (hl : 5 ≤ b.length) (hl2 : b.length ≤ 140737488355320) (he : (openV b).2 ≠ 0) :
    Calls Tryd.prog 29 #[v] w fun e w' => Below w.heap.size w w' ∧ e = .returned (.tuple #[fv 0 0 (.slice none 0 0), .int .i64 (openV b).2]) := by
  have hB := below_new w (.cells #[.int .u8 0, .int .u8 0, .slice none 0 0] 41)
  have hs' := hs.later hB
  obtain ⟨A, c, rfl, _⟩ := hs.form
  have q1 : decide ((b.length : Int) < 5) = false := decide_eq_false (by omega)
  have hO := refOpen_c _ b _ hs' hl2
  generalize (openV b).1 = p at *
  generalize (openV b).2 = er at *
  have HO := Lib.hid hO
  have q2 : (er != 0) = true := by simpa using he
  clear hs hO
  go_enter Tryd.func29, Tryd.ntmps29
  go_wp2_with fail
  refine (HO.out).mono ?_
  rintro e w1 ⟨v1, rfl, ho1, b1⟩
  obtain ⟨A1, c1, rfl, _⟩ := (sliceAt_of_own ho1).form
  have g2 := below_at b1 (k := w.heap.size) (o := .cells #[.int .u8 0, .int .u8 0, .slice none 0 0] 41) (new_at rfl _) (by simp)
  have d0 := cell_at g2 0
  have d1 := cell_at g2 1
  have d2 := cell_at g2 2
  have e0 := free_at g2 0
  have e1 := free_at g2 1
  have e2 := free_at g2 2
  go_wp2
  refine bodyPost_ret (res_frm2 (t := 2) (u := 3) rfl rfl (set_at (set_at (set_at g2 0 _) 1 _) 2 _)) rfl ⟨?_, rfl⟩
  exact (((below_step hB b1).setCell (by simp) _).setCell (by simp) _).setCell (by simp) _
abbrev zf : Array Value := #[.int .u8 0, .int .u8 0, .slice none 0 0]
/-- behind the opening: the result's variable is empty, block g holds the opened bytes -/
structure Pre (w W : World) (g : Nat) (k s n : Int) : Prop where
  res : W.heap[w.heap.size]? = some (.cells zf 41 (0, 0))
  x0 : W.cell? ⟨g, 0, none⟩ = some (.int .u8 k)
  x1 : W.cell? ⟨g, 1, none⟩ = some (.int .u8 s)
  x2 : W.cell? ⟨g, 2, none⟩ = some (.int .u8 n)
  lt : w.heap.size < g
  below : Below w.heap.size w W
theorem Pre.later {w W W' : World} {g : Nat} {k s n : Int} (h : Pre w W g k s n) (hb : Below W.heap.size W W') : Pre w W' g k s n :=
  ⟨below_at hb h.res (Array.getElem?_eq_some_iff.1 h.res).1, (hb.cell (p := ⟨g, 0, none⟩) (lt_of_cell h.x0)).trans h.x0, (hb.cell (p := ⟨g, 1, none⟩) (lt_of_cell h.x1)).trans h.x1,
    (hb.cell (p := ⟨g, 2, none⟩) (lt_of_cell h.x2)).trans h.x2, h.lt, below_step h.below hb⟩
/-- a frame's variable gv beside a row of the call's own -/
structure Mid (w W : World) (g gv : Nat) (k s n : Int) (v : Value) (p : List (BitVec 8)) : Prop where
  pre : Pre w W g k s n
  own : W.ownsRow (w.heap.size + 1) 5 1 v p.length (u8s p)
  at_ : W.heap[gv]? = some (.cells zf 41 (0, 0))
  ne : v.ownBlock ≠ some gv
  lt : w.heap.size < gv
  gne : g ≠ gv
structure Fin' (w W : World) (g gv : Nat) (k s n : Int) (v : Value) (p : List (BitVec 8)) : Prop where
  V : FVar W gv k s v p
  res : W.heap[w.heap.size]? = some (.cells zf 41 (0, 0))
  z2 : W.cell? ⟨g, 2, none⟩ = some (.int .u8 n)
  B : Below w.heap.size w W
  ne : ∀ q, VB v p.length q → q ≠ w.heap.size
  lt : w.heap.size < gv
theorem Mid.fin {w W : World} {g gv : Nat} {k s n : Int} {v : Value} {p : List (BitVec 8)} (h : Mid w W g gv k s n v p) :
    Fin' w (((W.setCell ⟨gv, 0, none⟩ (.int .u8 k)).setCell ⟨gv, 1, none⟩ (.int .u8 s)).setCell ⟨gv, 2, none⟩ v) g gv k s n v p := by
  have hne : ∀ q, v.ownBlock = some q → q ≠ gv := fun q hq e => h.ne (e ▸ hq)
  have hk : ∀ q, v.ownBlock = some q → (((W.setCell ⟨gv, 0, none⟩ (.int .u8 k)).setCell ⟨gv, 1, none⟩ (.int .u8 s)).setCell ⟨gv, 2, none⟩ v).heap[q]? = W.heap[q]? := fun q hq =>
    ((Below.heap_setCell _ ⟨gv, 2, none⟩ _ q (hne q hq)).trans (Below.heap_setCell _ ⟨gv, 1, none⟩ _ q (hne q hq))).trans (Below.heap_setCell _ ⟨gv, 0, none⟩ _ q (hne q hq))
  refine ⟨⟨set_at (set_at (set_at h.at_ 0 _) 1 _) 2 _, sliceAt_of_own (own_later h.own hk)⟩, ?_, ?_, ?_, fun q hq e => ?_, h.lt⟩
  · exact set_far (set_far (set_far h.pre.res (by have := h.lt; simp; omega) _) (by have := h.lt; simp; omega) _) (by have := h.lt; simp; omega) _
  · exact cell_far (cell_far (cell_far h.pre.x2 h.gne _) h.gne _) h.gne _
  · exact ((h.pre.below.setCell (Nat.le_of_lt h.lt) _).setCell (Nat.le_of_lt h.lt) _).setCell (Nat.le_of_lt h.lt) _
  · have := (own_base h.own (own_vb hq.2)).1
    omega
/-- what Take answers of bytes whose sum is right -/
def FormR (k s n : BitVec 8) (p : List (BitVec 8)) (e : Ending) (w' : World) : Prop :=
  if rightF k.toNat p.length && ((n.toNat : Int) == (p.length : Int)) then ∃ A c, e = .returned (.tuple #[fv k.toNat s.toNat (.slice A p.length c), .int .i64 0]) ∧ SliceAt w' 1 (.slice A p.length c) p.length (u8s p)
      else e = .returned (.tuple #[fv 0 0 (.slice none 0 0), .int .i64 41])
theorem FormR.bad {k s n : BitVec 8} {p : List (BitVec 8)} {e : Ending} {w' : World} (h : rightF k.toNat p.length = false ∨ ((n.toNat : Int) == (p.length : Int)) = false) (he : e = .returned (.tuple #[fv 0 0 (.slice none 0 0), .int .i64 41])) : FormR k s n p e w' := by
  unfold FormR
  have : (rightF k.toNat p.length && ((n.toNat : Int) == (p.length : Int))) = false := by rcases h with h | h <;> rw [h] <;> simp
  rw [this]; exact he
theorem FormR.fine {k s n : BitVec 8} {p : List (BitVec 8)} {e : Ending} {w' : World} {A : Option Addr} {c : Nat} (h : rightF k.toNat p.length = true) (h2 : ((n.toNat : Int) == (p.length : Int)) = true)
    (he : e = .returned (.tuple #[fv k.toNat s.toNat (.slice A p.length c), .int .i64 0])) (hs : SliceAt w' 1 (.slice A p.length c) p.length (u8s p)) : FormR k s n p e w' := by
  unfold FormR
  rw [h, h2]; exact ⟨A, c, he, hs⟩
set_option maxHeartbeats 4000000 in
set_option maxRecDepth 100000 in
theorem refTake_form (v : Value) (b : List (BitVec 8)) (k s n : BitVec 8) (p : List (BitVec 8)) (w : World) (hs : SliceAt w 1 v b.length (u8s b)) (hl : 5 ≤ b.length) (hl2 : b.length ≤ 140737488355320) (he : openV b = (k :: s :: n :: p, 0)) :
    Calls Tryd.prog 29 #[v] w fun e w' => Below w.heap.size w w' ∧ 
      FormR k s n p e w' := by
  obtain ⟨i0', hi, hz0, hz1, hz2⟩ := info_parts info_u8
  have hB := below_new w (.cells #[.int .u8 0, .int .u8 0, .slice none 0 0] 41)
  have hs' := hs.later hB
  obtain ⟨A, c, rfl, _⟩ := hs.form
  have q1 : decide ((b.length : Int) < 5) = false := decide_eq_false (by omega)
  have hO := refOpen_c _ b _ hs' hl2
  have hpl := openV_len (b := b) (by rw [he])
  rw [he] at hO hpl
  have hpl2 : p.length ≤ 140737488355328 := by simp at hpl; omega
  have HO := Lib.hid hO
  clear hs hO he hpl
  go_enter Tryd.func29, Tryd.ntmps29
  go_wp2_with fail
  refine (HO.out).mono ?_
  rintro e w1 ⟨v1, rfl, ho1, b1⟩
  obtain ⟨A1, c1, rfl, c2, _⟩ := (sliceAt_of_own ho1).form
  obtain ⟨g, rfl⟩ := own_some ho1 (by simp)
  have S1 : SliceAt w1 1 (.slice (some ⟨g, 0, none⟩) (p.length + 3) c1) (p.length + 3) (u8s (k :: s :: n :: p)) := sliceAt_of_own ho1
  have hgb := own_base ho1 (g := g) rfl
  simp only [World.size_alloc] at hgb
  have x0 : w1.cell? ⟨g, 0, none⟩ = some (.int .u8 (k.toNat : Int)) := ho1.cellAt 0 (by simp)
  have x1 : w1.cell? ⟨g, 1, none⟩ = some (.int .u8 (s.toNat : Int)) := ho1.cellAt 1 (by simp)
  have x2 : w1.cell? ⟨g, 2, none⟩ = some (.int .u8 (n.toNat : Int)) := ho1.cellAt 2 (by simp)
  have hsub := S1.sub (lo := 3) (hi := p.length + 3) (by omega) (Nat.le_refl _)
  rw [Nat.add_sub_cancel, show List.take (p.length * 1) (List.drop (3 * 1) (u8s (k :: s :: n :: p))) = u8s p from by simp only [u8s, List.map_cons, Nat.mul_one, Nat.one_mul, List.drop_succ_cons, List.drop_zero]; exact List.take_of_length_le (by simp)] at hsub
  have g2 := below_at b1 (k := w.heap.size) (o := .cells #[.int .u8 0, .int .u8 0, .slice none 0 0] 41) (new_at rfl _) (by simp)
  have d0 := cell_at g2 0
  have d1 := cell_at g2 1
  have d2 := cell_at g2 2
  have e0 := free_at g2 0
  have e1 := free_at g2 1
  have e2 := free_at g2 2
  have c2' : p.length + 3 ≤ c1 := c2
  change Hid _ at HO
  clear HO c2 ho1
  obtain ⟨L, hL⟩ : ∃ L, p.length + 3 = L := ⟨_, rfl⟩
  rw [show (k :: s :: n :: p).length = L from hL]
  have i0 : 0 < L := by omega
  have i1 : (1 : Int) < (L : Int) := by omega
  have i2 : (2 : Int) < (L : Int) := by omega
  have i3 : (3 : Int) ≤ (L : Int) := by omega
  have i4 : (L : Int) ≤ (c1 : Int) := by omega
  have hcase : (c1 = 3 ∧ SliceAt w1 1 (.slice (some ⟨g, 0, none⟩) (L - 3) 0) p.length (u8s p)) ∨ (¬ c1 = 3 ∧ SliceAt w1 1 (.slice (some ⟨g, 3, none⟩) (L - 3) (c1 - 3)) p.length (u8s p)) := by
    have hp3 : L - 3 = p.length := by omega
    rw [hp3]
    by_cases hc3 : c1 = 3
    · left; rw [if_pos hc3] at hsub; rw [hc3] at hsub; exact ⟨hc3, hsub⟩
    · right; rw [if_neg hc3] at hsub; exact ⟨hc3, hsub⟩
  have HL := Lib.hid hL
  clear hL hsub
  have hgn : g ≠ w.heap.size := by omega
  have P0 : Pre w w1 g k.toNat s.toNat n.toNat := ⟨g2, x0, x1, x2, by omega, below_step hB b1⟩
  have P1 := P0.later (Below.refl _ w1).drew
  have hsz : w1.drew.heap.size = w1.heap.size := rfl
  have hw1 : g < w1.heap.size := hgb.2
  have HSZ := Lib.hid hsz
  clear g2 hsz d0 d1 d2 e0 e1 e2 P0
  rcases hcase with ⟨rfl, hs3⟩ | ⟨hc3, hs3⟩
  all_goals
    go_wp2_with fail
    refine wp_region_held_drew (S := (fun w' => w'.cell? ⟨g, 0, none⟩ = some (.int .u8 (k.toNat : Int)) ∧ w'.cell? ⟨g, 1, none⟩ = some (.int .u8 (s.toNat : Int)))) (by kernel_rfl) ?_ (fun hHeld => ?_)
    · exact ⟨x0, x1⟩
    refine Node.tk 0 ?_ rfl ?_ ?_
    rotate_left
    · intro w hSw; (try dsimp only at hSw); go_simp; try with_reducible rfl
    simp only [zA, zS, zZ, Act.put, zP, zQ, zR]
    refine Node.tk 1 ?_ rfl ?_ ?_
    rotate_left
    · intro w hSw; (try dsimp only at hSw); go_simp; try with_reducible rfl
    simp only [zA, zS, zZ, Act.put, zP, zQ, zR]
    refine Node.tk 2 ?_ rfl ?_ ?_
    rotate_left
    · intro w hSw; (try dsimp only at hSw); go_simp; try with_reducible rfl
    simp only [zA, zS, zZ, Act.put, zP, zQ, zR]
    refine Node.tk 3 ?_ rfl ?_ ?_
    rotate_left
    · intro w hSw; (try dsimp only at hSw); go_simp; try with_reducible rfl
    simp only [zA, zS, zZ, Act.put, zP, zQ, zR]
    refine Node.tk 4 ?_ rfl ?_ ?_
    rotate_left
    · intro w hSw; (try dsimp only at hSw); go_simp; try with_reducible rfl
    simp only [zA, zS, zZ, Act.put, zP, zQ, zR]
    refine Node.tk 5 ?_ rfl ?_ ?_
    rotate_left
    · intro w hSw; (try dsimp only at hSw); go_simp; try with_reducible rfl
    simp only [zA, zS, zZ, Act.put, zP, zQ, zR]
    refine Node.tk 7 ?_ rfl ?_ ?_
    rotate_left
    · intro w hSw; (try dsimp only at hSw); go_simp; try with_reducible rfl
    simp only [zA, zS, zZ, Act.put, zP, zQ, zR]
    refine Node.tk 8 ?_ rfl ?_ ?_
    rotate_left
    · intro w hSw; (try dsimp only at hSw); go_simp; try with_reducible rfl
    simp only [zA, zS, zZ, Act.put, zP, zQ, zR]
    have hs4 := hs3.later (Below.refl _ w1).drew
    have hW2 : g < w1.drew.heap.size := hw1
    clear hs3 x0 x1 x2
    generalize w1.drew = W2 at *
    refine wpAnyH_ready (rs := [6, 11]) (by kernel_rfl) (by simp) ?_
    refine AllReadyH.cons rfl ?_ (AllReadyH.cons rfl ?_ AllReadyH.nil)
    · intro K hK
      go_simp
      have b2 := below_new W2 (.cells #[] 5)
      have P2 := P1.later b2
      have hs5 := hs4.later b2
      have ho2 := own_empty W2 5 1
      refine hK.out _ _ ⟨P2.x0, P2.x1⟩ (fun _ => ?_)
      clear hK K
      try simp only [zA, zS, zZ, Act.put, zP, zQ, zR]
      refine wpAnyH_ready (rs := [9, 11]) (by kernel_rfl) (by simp) ?_
      refine AllReadyH.cons rfl ?_ (AllReadyH.cons rfl ?_ AllReadyH.nil)
      · intro K hK
        rw [if_pos (by rfl)]
        refine wp_append_src (.tmp 26) (.tmp 28) _ (by rfl) W2.heap.size 5 i0' _ 1 1 Tryd.underlying36 hi hz0 hz1 hz2 rfl (by omega) (.slice (some ⟨W2.heap.size, 0, none⟩) 0 0) 0 [] (by rfl) ho2 _ p.length (u8s p) (by rfl) hs5 (u8s_one p) (by simp only [maxLen]; omega) (by omega) (by simp) ?_
        intro v1 w3 ho3 hg3 hv3
        rw [Nat.zero_add, List.nil_append] at ho3
        have P3 := P1.later (below_own b2 hg3 (by simp) (by intro g hg; cases hg; exact Nat.le_refl _))
        have P4 := P3.later (below_new w3 (.cells zf 41))
        have n4 := new_at (w := w3) rfl (.cells zf 41)
        have o4 := own_later ho3 (w' := w3.alloc (.cells zf 41)) (fun g hg => Below.heap_alloc _ _ g (own_base ho3 hg).2)
        have hvn : v1.ownBlock ≠ some w3.heap.size := fun e => by have := (own_base ho3 e).2; omega
        have hl1 := lt_of_cell P3.x0
        have hl2 := P1.lt
        obtain ⟨A2, c2, rfl, _, _⟩ := (sliceAt_of_own ho3).form
        refine hK.out _ _ ⟨P3.x0, P3.x1⟩ (fun _ => ?_)
        clear hK K
        try simp only [zA, zS, zZ, Act.put, zP, zQ, zR]
        refine Node.tk 10 ?_ rfl ?_ ?_
        rotate_left
        · intro w hSw; (try dsimp only at hSw); go_simp; try with_reducible rfl
        simp only [zA, zS, zZ, Act.put, zP, zQ, zR]
        refine Node.on 11 rfl (fun K hK => ?_)
        go_simp
        refine hK.out _ _ ⟨P4.x0, P4.x1⟩ (fun _ => ?_)
        clear hK K
        try simp only [zA, zS, zZ, Act.put, zP, zQ, zR]
        have M : Mid w _ g w3.heap.size k.toNat s.toNat n.toNat (.slice A2 p.length c2) p := ⟨P4, own_base_le o4 (by omega), n4, hvn, by simp at hl1; omega, by simp at hl1; omega⟩
        clear P3 P4 n4 o4 hvn hl1 hl2 ho3 hg3 hv3 hs5 ho2 b2 P2
        generalize w3.alloc (.cells zf 41) = W4 at *
        generalize w3.heap.size = gv at *
        have d0 := cell_at M.at_ 0
        have d1 := cell_at M.at_ 1
        have d2 := cell_at M.at_ 2
        have e0 := free_at M.at_ 0
        have e1 := free_at M.at_ 1
        have e2 := free_at M.at_ 2
        refine Node.on 12 rfl (fun K hK => ?_)
        go_simp
        refine hK.out _ _ ⟨cell_far (cell_far (cell_far M.pre.x0 M.gne _) M.gne _) M.gne _, cell_far (cell_far (cell_far M.pre.x1 M.gne _) M.gne _) M.gne _⟩ (fun _ => ?_)
        clear hK K
        try simp only [zA, zS, zZ, Act.put, zP, zQ, zR]
        refine wpAnyH_done (by kernel_rfl) ?_ _
        have F := M.fin
        clear M d0 d1 d2 e0 e1 e2
        generalize ((W4.setCell ⟨gv, 0, none⟩ (.int .u8 (k.toNat : Int))).setCell ⟨gv, 1, none⟩ (.int .u8 (s.toNat : Int))).setCell ⟨gv, 2, none⟩ (.slice A2 p.length c2) = W5 at *
        clear hs4 P1 hW2
        have V := F.V
        have VD := V.later (Below.refl _ _).drew
        have x0 := V.c0
        have x1 := V.c1
        have x2 := V.c2
        have z2 := F.z2
        have hgs : g < W5.heap.size := lt_of_cell (p := ⟨g, 2, none⟩) z2
        have hgw : w.heap.size < W5.heap.size := (Array.getElem?_eq_some_iff.1 F.res).1
        have hn8 : (n.toNat : Int) < 256 := by have := n.isLt; omega
        have hwn : IntKind.i64.wrap (n.toNat : Int) = (n.toNat : Int) := IntWalk.i64_in _ (by have := n.isLt; omega)
        rcases hr : rightF k.toNat p.length with _ | _
        · have HR := Lib.hid hr
          clear hr
          go_wp2_with fail
          refine wp_region_held_drew (S := (fun w' => w'.cell? ⟨gv, 0, none⟩ = some (.int .u8 (k.toNat : Int)) ∧ w'.cell? ⟨gv, 1, none⟩ = some (.int .u8 (s.toNat : Int)) ∧ w'.cell? ⟨gv, 2, none⟩ = some (.slice A2 p.length c2))) (by kernel_rfl) ?_ (fun hHeld => ?_)
          · exact ⟨x0, x1, x2⟩
          refine Node.tk 0 ?_ rfl ?_ ?_
          rotate_left
          · intro w hSw; (try dsimp only at hSw); go_simp; try with_reducible rfl
          simp only [zA, zS, zZ, Act.put, zP, zQ, zR]
          refine Node.on 1 rfl (fun K hK => ?_)
          go_simp
          refine (refRight_g _ _ _ p false _ HR.out VD.sl).mono ?_
          rintro e w4 ⟨rfl, b4⟩
          refine hK.out _ _ ?_ (fun hHeld => ?_)
          · exact ⟨(VD.later b4).c0, (VD.later b4).c1, (VD.later b4).c2⟩
          clear hK K
          refine Node.tk 2 ?_ rfl ?_ ?_
          rotate_left
          · intro w hSw; (try dsimp only at hSw); go_simp; try with_reducible rfl
          simp only [zA, zS, zZ, Act.put, zP, zQ, zR]
          refine Node.tk 3 ?_ rfl ?_ ?_
          rotate_left
          · intro w hSw; (try dsimp only at hSw); go_simp; try with_reducible rfl
          simp only [zA, zS, zZ, Act.put, zP, zQ, zR]
          refine Node.sk 4 rfl ?_
          refine Node.sk 5 rfl ?_
          refine Node.sk 6 rfl ?_
          refine Node.sk 7 rfl ?_
          refine Node.sk 8 rfl ?_
          refine Node.sk 9 rfl ?_
          refine Node.sk 10 rfl ?_
          refine Node.sk 11 rfl ?_
          simp only [zA, zS, zZ, Act.put, zP, zQ, zR]
          refine Node.tk 12 ?_ rfl ?_ ?_
          rotate_left
          · intro w hSw; (try dsimp only at hSw); go_simp; try with_reducible rfl
          simp only [zA, zS, zZ, Act.put, zP, zQ, zR]
          refine wpAnyH_done (by kernel_rfl) ?_ _
          have r4 := below_at b4 (k := w.heap.size) F.res hgw
          have d0 := cell_at r4 0
          have d1 := cell_at r4 1
          have d2 := cell_at r4 2
          have e0 := free_at r4 0
          have e1 := free_at r4 1
          have e2 := free_at r4 2
          clear x0 x1 x2 z2
          go_wp2
          refine bodyPost_ret (res_frm2 (t := 2) (u := 3) rfl rfl (set_at (set_at (set_at r4 0 _) 1 _) 2 _)) rfl ⟨?_, ?_⟩
          · exact ((((F.B.drew).trans (b4.mono F.B.size)).setCell (by simp) _).setCell (by simp) _).setCell (by simp) _
          · exact FormR.bad (.inl HR.out) rfl
        · have HR := Lib.hid hr
          clear hr
          have hnp : ((n.toNat : Int) == (p.length : Int)) = true ∨ ((n.toNat : Int) == (p.length : Int)) = false := by cases ((n.toNat : Int) == (p.length : Int)) <;> simp
          rcases hnp with hnp | hnp
          all_goals
            have HNP := Lib.hid hnp
            have hnp2 : ((n.toNat : Int) != (p.length : Int)) = false ∨ ((n.toNat : Int) != (p.length : Int)) = true := by cases ((n.toNat : Int) != (p.length : Int)) <;> simp
            have hnp3 : ((n.toNat : Int) != (p.length : Int)) = !((n.toNat : Int) == (p.length : Int)) := rfl
            rcases hnp2 with hnp2 | hnp2
            all_goals first | (exfalso; rw [HNP.out, hnp2] at hnp3; cases hnp3; done) | skip
            clear hnp3
            go_wp2_with fail
            go_region_held3 (fun w' => w'.cell? ⟨gv, 0, none⟩ = some (.int .u8 (k.toNat : Int)) ∧ w'.cell? ⟨gv, 1, none⟩ = some (.int .u8 (s.toNat : Int)) ∧ w'.cell? ⟨gv, 2, none⟩ = some (.slice A2 p.length c2) ∧ w'.cell? ⟨g, 2, none⟩ = some (.int .u8 (n.toNat : Int)))
              (first | exact ⟨V4.c0, V4.c1, V4.c2, z4⟩ | exact ⟨x0, x1, x2, z2⟩)
              (first | (go_at_call 48; refine (refRight_g _ _ _ p true _ HR.out VD.sl).mono ?_; rintro e w4 ⟨rfl, b4⟩; have V4 := VD.later b4; have z4 := (b4.cell (p := ⟨g, 2, none⟩) hgs).trans z2))
            have r4 := below_at b4 (k := w.heap.size) F.res hgw
            have d0 := cell_at r4 0
            have d1 := cell_at r4 1
            have d2 := cell_at r4 2
            have e0 := free_at r4 0
            have e1 := free_at r4 1
            have e2 := free_at r4 2
            have y0 := V4.c0
            have y1 := V4.c1
            have y2 := V4.c2
            clear x0 x1 x2 z2 z4
            go_wp2
            refine bodyPost_ret (res_frm2 (t := 2) (u := 3) rfl rfl (set_at (set_at (set_at r4 0 _) 1 _) 2 _)) rfl ⟨?_, ?_⟩
            · exact ((((F.B.drew).trans (b4.mono F.B.size)).setCell (by simp) _).setCell (by simp) _).setCell (by simp) _
            · first
              | exact FormR.bad (.inr HNP.out) rfl
              | exact FormR.fine HR.out HNP.out rfl (slice_keep V4.sl ((((Keep.refl (fun q => q ≠ w.heap.size) w4).setCell (fun _ h => h rfl) _).setCell (fun _ h => h rfl) _).setCell (fun _ h => h rfl) _) F.ne)
      · intro K hK
        go_simp
        have bf := below_new (W2.alloc (.cells #[] 5)) (.cells zf 41)
        have hs5 := hs5.later bf
        have of := own_later ho2 (w' := (W2.alloc (.cells #[] 5)).alloc (.cells zf 41)) (fun g hg => Below.heap_alloc _ _ g (own_base ho2 hg).2)
        have nf := new_at (w := W2.alloc (.cells #[] 5)) rfl (.cells zf 41)
        rw [World.size_alloc] at nf
        have Pf := P2.later bf
        have b3 := below_step b2 bf
        have hwf : ((W2.alloc (.cells #[] 5)).alloc (.cells zf 41)).heap.size = W2.heap.size + 2 := by simp
        refine hK.out _ _ ⟨Pf.x0, Pf.x1⟩ (fun _ => ?_)
        clear hK K
        try simp only [zA, zS, zZ, Act.put, zP, zQ, zR]
        generalize hWf : (W2.alloc (.cells #[] 5)).alloc (.cells zf 41) = Wf at *
        clear hWf
        refine wpAnyH_ready (rs := [9]) (by kernel_rfl) (by simp) ?_
        refine AllReadyH.cons rfl ?_ AllReadyH.nil
        intro K hK
        rw [if_pos (by rfl)]
        refine wp_append_src (.tmp 26) (.tmp 28) _ (by rfl) W2.heap.size 5 i0' _ 1 1 Tryd.underlying36 hi hz0 hz1 hz2 rfl (by omega) (.slice (some ⟨W2.heap.size, 0, none⟩) 0 0) 0 [] (by rfl) of _ p.length (u8s p) (by rfl) hs5 (u8s_one p) (by simp only [maxLen]; omega) (by omega) (by omega) ?_
        intro v1 W4 ho3 hg3 hv3
        rw [Nat.zero_add, List.nil_append] at ho3
        have P3 := P1.later (below_own b3 hg3 (by omega) (by intro g hg; cases hg; exact Nat.le_refl _))
        have hl2 := P1.lt
        have n3 := (hg3.block (W2.heap.size + 1) (by omega) (fun e => by have := Option.some.inj e; simp at this)).trans nf
        have hvn : v1.ownBlock ≠ some (W2.heap.size + 1) := by
          rcases hv3 with e | e
          · rw [e]; intro e2; have := Option.some.inj e2; simp at this
          · rw [e]; intro e2; have := Option.some.inj e2; omega
        obtain ⟨A2, c2, rfl, _, _⟩ := (sliceAt_of_own ho3).form
        refine hK.out _ _ ⟨P3.x0, P3.x1⟩ (fun _ => ?_)
        clear hK K
        try simp only [zA, zS, zZ, Act.put, zP, zQ, zR]
        refine Node.tk 10 ?_ rfl ?_ ?_
        rotate_left
        · intro w hSw; (try dsimp only at hSw); go_simp; try with_reducible rfl
        simp only [zA, zS, zZ, Act.put, zP, zQ, zR]
        have M : Mid w _ g (W2.heap.size + 1) k.toNat s.toNat n.toNat (.slice A2 p.length c2) p := ⟨P3, own_base_le ho3 (by omega), n3, hvn, by omega, by omega⟩
        clear P3 n3 hvn hl2 ho3 hg3 hv3 hs5 ho2 b2 P2 bf of nf Pf b3 hwf
        generalize W2.heap.size + 1 = gv at *
        have d0 := cell_at M.at_ 0
        have d1 := cell_at M.at_ 1
        have d2 := cell_at M.at_ 2
        have e0 := free_at M.at_ 0
        have e1 := free_at M.at_ 1
        have e2 := free_at M.at_ 2
        refine Node.on 12 rfl (fun K hK => ?_)
        go_simp
        refine hK.out _ _ ⟨cell_far (cell_far (cell_far M.pre.x0 M.gne _) M.gne _) M.gne _, cell_far (cell_far (cell_far M.pre.x1 M.gne _) M.gne _) M.gne _⟩ (fun _ => ?_)
        clear hK K
        try simp only [zA, zS, zZ, Act.put, zP, zQ, zR]
        refine wpAnyH_done (by kernel_rfl) ?_ _
        have F := M.fin
        clear M d0 d1 d2 e0 e1 e2
        generalize ((W4.setCell ⟨gv, 0, none⟩ (.int .u8 (k.toNat : Int))).setCell ⟨gv, 1, none⟩ (.int .u8 (s.toNat : Int))).setCell ⟨gv, 2, none⟩ (.slice A2 p.length c2) = W5 at *
        clear hs4 P1 hW2
        have V := F.V
        have VD := V.later (Below.refl _ _).drew
        have x0 := V.c0
        have x1 := V.c1
        have x2 := V.c2
        have z2 := F.z2
        have hgs : g < W5.heap.size := lt_of_cell (p := ⟨g, 2, none⟩) z2
        have hgw : w.heap.size < W5.heap.size := (Array.getElem?_eq_some_iff.1 F.res).1
        have hn8 : (n.toNat : Int) < 256 := by have := n.isLt; omega
        have hwn : IntKind.i64.wrap (n.toNat : Int) = (n.toNat : Int) := IntWalk.i64_in _ (by have := n.isLt; omega)
        rcases hr : rightF k.toNat p.length with _ | _
        · have HR := Lib.hid hr
          clear hr
          go_wp2_with fail
          refine wp_region_held_drew (S := (fun w' => w'.cell? ⟨gv, 0, none⟩ = some (.int .u8 (k.toNat : Int)) ∧ w'.cell? ⟨gv, 1, none⟩ = some (.int .u8 (s.toNat : Int)) ∧ w'.cell? ⟨gv, 2, none⟩ = some (.slice A2 p.length c2))) (by kernel_rfl) ?_ (fun hHeld => ?_)
          · exact ⟨x0, x1, x2⟩
          refine Node.tk 0 ?_ rfl ?_ ?_
          rotate_left
          · intro w hSw; (try dsimp only at hSw); go_simp; try with_reducible rfl
          simp only [zA, zS, zZ, Act.put, zP, zQ, zR]
          refine Node.on 1 rfl (fun K hK => ?_)
          go_simp
          refine (refRight_g _ _ _ p false _ HR.out VD.sl).mono ?_
          rintro e w4 ⟨rfl, b4⟩
          refine hK.out _ _ ?_ (fun hHeld => ?_)
          · exact ⟨(VD.later b4).c0, (VD.later b4).c1, (VD.later b4).c2⟩
          clear hK K
          refine Node.tk 2 ?_ rfl ?_ ?_
          rotate_left
          · intro w hSw; (try dsimp only at hSw); go_simp; try with_reducible rfl
          simp only [zA, zS, zZ, Act.put, zP, zQ, zR]
          refine Node.tk 3 ?_ rfl ?_ ?_
          rotate_left
          · intro w hSw; (try dsimp only at hSw); go_simp; try with_reducible rfl
          simp only [zA, zS, zZ, Act.put, zP, zQ, zR]
          refine Node.sk 4 rfl ?_
          refine Node.sk 5 rfl ?_
          refine Node.sk 6 rfl ?_
          refine Node.sk 7 rfl ?_
          refine Node.sk 8 rfl ?_
          refine Node.sk 9 rfl ?_
          refine Node.sk 10 rfl ?_
          refine Node.sk 11 rfl ?_
          simp only [zA, zS, zZ, Act.put, zP, zQ, zR]
          refine Node.tk 12 ?_ rfl ?_ ?_
          rotate_left
          · intro w hSw; (try dsimp only at hSw); go_simp; try with_reducible rfl
          simp only [zA, zS, zZ, Act.put, zP, zQ, zR]
          refine wpAnyH_done (by kernel_rfl) ?_ _
          have r4 := below_at b4 (k := w.heap.size) F.res hgw
          have d0 := cell_at r4 0
          have d1 := cell_at r4 1
          have d2 := cell_at r4 2
          have e0 := free_at r4 0
          have e1 := free_at r4 1
          have e2 := free_at r4 2
          clear x0 x1 x2 z2
          go_wp2
          refine bodyPost_ret (res_frm2 (t := 2) (u := 3) rfl rfl (set_at (set_at (set_at r4 0 _) 1 _) 2 _)) rfl ⟨?_, ?_⟩
          · exact ((((F.B.drew).trans (b4.mono F.B.size)).setCell (by simp) _).setCell (by simp) _).setCell (by simp) _
          · exact FormR.bad (.inl HR.out) rfl
        · have HR := Lib.hid hr
          clear hr
          have hnp : ((n.toNat : Int) == (p.length : Int)) = true ∨ ((n.toNat : Int) == (p.length : Int)) = false := by cases ((n.toNat : Int) == (p.length : Int)) <;> simp
          rcases hnp with hnp | hnp
          all_goals
            have HNP := Lib.hid hnp
            have hnp2 : ((n.toNat : Int) != (p.length : Int)) = false ∨ ((n.toNat : Int) != (p.length : Int)) = true := by cases ((n.toNat : Int) != (p.length : Int)) <;> simp
            have hnp3 : ((n.toNat : Int) != (p.length : Int)) = !((n.toNat : Int) == (p.length : Int)) := rfl
            rcases hnp2 with hnp2 | hnp2
            all_goals first | (exfalso; rw [HNP.out, hnp2] at hnp3; cases hnp3; done) | skip
            clear hnp3
            go_wp2_with fail
            go_region_held3 (fun w' => w'.cell? ⟨gv, 0, none⟩ = some (.int .u8 (k.toNat : Int)) ∧ w'.cell? ⟨gv, 1, none⟩ = some (.int .u8 (s.toNat : Int)) ∧ w'.cell? ⟨gv, 2, none⟩ = some (.slice A2 p.length c2) ∧ w'.cell? ⟨g, 2, none⟩ = some (.int .u8 (n.toNat : Int)))
              (first | exact ⟨V4.c0, V4.c1, V4.c2, z4⟩ | exact ⟨x0, x1, x2, z2⟩)
              (first | (go_at_call 48; refine (refRight_g _ _ _ p true _ HR.out VD.sl).mono ?_; rintro e w4 ⟨rfl, b4⟩; have V4 := VD.later b4; have z4 := (b4.cell (p := ⟨g, 2, none⟩) hgs).trans z2))
            have r4 := below_at b4 (k := w.heap.size) F.res hgw
            have d0 := cell_at r4 0
            have d1 := cell_at r4 1
            have d2 := cell_at r4 2
            have e0 := free_at r4 0
            have e1 := free_at r4 1
            have e2 := free_at r4 2
            have y0 := V4.c0
            have y1 := V4.c1
            have y2 := V4.c2
            clear x0 x1 x2 z2 z4
            go_wp2
            refine bodyPost_ret (res_frm2 (t := 2) (u := 3) rfl rfl (set_at (set_at (set_at r4 0 _) 1 _) 2 _)) rfl ⟨?_, ?_⟩
            · exact ((((F.B.drew).trans (b4.mono F.B.size)).setCell (by simp) _).setCell (by simp) _).setCell (by simp) _
            · first
              | exact FormR.bad (.inr HNP.out) rfl
              | exact FormR.fine HR.out HNP.out rfl (slice_keep V4.sl ((((Keep.refl (fun q => q ≠ w.heap.size) w4).setCell (fun _ h => h rfl) _).setCell (fun _ h => h rfl) _).setCell (fun _ h => h rfl) _) F.ne)
    · intro K hK
      go_simp
      have b2 := below_new W2 (.cells zf 41)
      have P2 := P1.later b2
      have bf := below_new (W2.alloc (.cells zf 41)) (.cells #[] 5)
      have hs5 := hs4.later (below_step b2 bf)
      have of := own_empty (W2.alloc (.cells zf 41)) 5 1
      have nf := old_at (new_at (w := W2) rfl (.cells zf 41)) (.cells #[] 5)
      rw [World.size_alloc] at of
      have Pf := P2.later bf
      have b3 := below_step b2 bf
      have hwf : ((W2.alloc (.cells zf 41)).alloc (.cells #[] 5)).heap.size = W2.heap.size + 2 := by simp
      refine hK.out _ _ ⟨P2.x0, P2.x1⟩ (fun _ => ?_)
      clear hK K
      try simp only [zA, zS, zZ, Act.put, zP, zQ, zR]
      refine wpAnyH_ready (rs := [6]) (by kernel_rfl) (by simp) ?_
      refine AllReadyH.cons rfl ?_ AllReadyH.nil
      intro K hK
      go_simp
      refine hK.out _ _ ⟨Pf.x0, Pf.x1⟩ (fun _ => ?_)
      clear hK K
      try simp only [zA, zS, zZ, Act.put, zP, zQ, zR]
      generalize hWf : (W2.alloc (.cells zf 41)).alloc (.cells #[] 5) = Wf at *
      clear hWf
      refine wpAnyH_ready (rs := [9]) (by kernel_rfl) (by simp) ?_
      refine AllReadyH.cons rfl ?_ AllReadyH.nil
      intro K hK
      rw [if_pos (by rfl)]
      refine wp_append_src (.tmp 26) (.tmp 28) _ (by rfl) (W2.heap.size + 1) 5 i0' _ 1 1 Tryd.underlying36 hi hz0 hz1 hz2 rfl (by omega) (.slice (some ⟨W2.heap.size + 1, 0, none⟩) 0 0) 0 [] (by rfl) of _ p.length (u8s p) (by rfl) hs5 (u8s_one p) (by simp only [maxLen]; omega) (by omega) (by omega) ?_
      intro v1 W4 ho3 hg3 hv3
      rw [Nat.zero_add, List.nil_append] at ho3
      have P3 := P1.later (below_own b3 hg3 (by omega) (by intro g hg; cases hg; exact Nat.le_succ _))
      have hl2 := P1.lt
      have n3 := (hg3.block W2.heap.size (by omega) (fun e => by have := Option.some.inj e; simp at this)).trans nf
      have hvn : v1.ownBlock ≠ some W2.heap.size := by
        intro e2
        have := (own_base ho3 e2).1
        omega
      obtain ⟨A2, c2, rfl, _, _⟩ := (sliceAt_of_own ho3).form
      refine hK.out _ _ ⟨P3.x0, P3.x1⟩ (fun _ => ?_)
      clear hK K
      try simp only [zA, zS, zZ, Act.put, zP, zQ, zR]
      refine Node.tk 10 ?_ rfl ?_ ?_
      rotate_left
      · intro w hSw; (try dsimp only at hSw); go_simp; try with_reducible rfl
      simp only [zA, zS, zZ, Act.put, zP, zQ, zR]
      have M : Mid w _ g W2.heap.size k.toNat s.toNat n.toNat (.slice A2 p.length c2) p := ⟨P3, own_base_le ho3 (by omega), n3, hvn, by omega, by omega⟩
      clear P3 n3 hvn hl2 ho3 hg3 hv3 hs5 b2 P2 bf of nf Pf b3 hwf
      generalize W2.heap.size = gv at *
      have d0 := cell_at M.at_ 0
      have d1 := cell_at M.at_ 1
      have d2 := cell_at M.at_ 2
      have e0 := free_at M.at_ 0
      have e1 := free_at M.at_ 1
      have e2 := free_at M.at_ 2
      refine Node.on 12 rfl (fun K hK => ?_)
      go_simp
      refine hK.out _ _ ⟨cell_far (cell_far (cell_far M.pre.x0 M.gne _) M.gne _) M.gne _, cell_far (cell_far (cell_far M.pre.x1 M.gne _) M.gne _) M.gne _⟩ (fun _ => ?_)
      clear hK K
      try simp only [zA, zS, zZ, Act.put, zP, zQ, zR]
      refine wpAnyH_done (by kernel_rfl) ?_ _
      have F := M.fin
      clear M d0 d1 d2 e0 e1 e2
      generalize ((W4.setCell ⟨gv, 0, none⟩ (.int .u8 (k.toNat : Int))).setCell ⟨gv, 1, none⟩ (.int .u8 (s.toNat : Int))).setCell ⟨gv, 2, none⟩ (.slice A2 p.length c2) = W5 at *
      clear hs4 P1 hW2
      have V := F.V
      have VD := V.later (Below.refl _ _).drew
      have x0 := V.c0
      have x1 := V.c1
      have x2 := V.c2
      have z2 := F.z2
      have hgs : g < W5.heap.size := lt_of_cell (p := ⟨g, 2, none⟩) z2
      have hgw : w.heap.size < W5.heap.size := (Array.getElem?_eq_some_iff.1 F.res).1
      have hn8 : (n.toNat : Int) < 256 := by have := n.isLt; omega
      have hwn : IntKind.i64.wrap (n.toNat : Int) = (n.toNat : Int) := IntWalk.i64_in _ (by have := n.isLt; omega)
      rcases hr : rightF k.toNat p.length with _ | _
      · have HR := Lib.hid hr
        clear hr
        go_wp2_with fail
        refine wp_region_held_drew (S := (fun w' => w'.cell? ⟨gv, 0, none⟩ = some (.int .u8 (k.toNat : Int)) ∧ w'.cell? ⟨gv, 1, none⟩ = some (.int .u8 (s.toNat : Int)) ∧ w'.cell? ⟨gv, 2, none⟩ = some (.slice A2 p.length c2))) (by kernel_rfl) ?_ (fun hHeld => ?_)
        · exact ⟨x0, x1, x2⟩
        refine Node.tk 0 ?_ rfl ?_ ?_
        rotate_left
        · intro w hSw; (try dsimp only at hSw); go_simp; try with_reducible rfl
        simp only [zA, zS, zZ, Act.put, zP, zQ, zR]
        refine Node.on 1 rfl (fun K hK => ?_)
        go_simp
        refine (refRight_g _ _ _ p false _ HR.out VD.sl).mono ?_
        rintro e w4 ⟨rfl, b4⟩
        refine hK.out _ _ ?_ (fun hHeld => ?_)
        · exact ⟨(VD.later b4).c0, (VD.later b4).c1, (VD.later b4).c2⟩
        clear hK K
        refine Node.tk 2 ?_ rfl ?_ ?_
        rotate_left
        · intro w hSw; (try dsimp only at hSw); go_simp; try with_reducible rfl
        simp only [zA, zS, zZ, Act.put, zP, zQ, zR]
        refine Node.tk 3 ?_ rfl ?_ ?_
        rotate_left
        · intro w hSw; (try dsimp only at hSw); go_simp; try with_reducible rfl
        simp only [zA, zS, zZ, Act.put, zP, zQ, zR]
        refine Node.sk 4 rfl ?_
        refine Node.sk 5 rfl ?_
        refine Node.sk 6 rfl ?_
        refine Node.sk 7 rfl ?_
        refine Node.sk 8 rfl ?_
        refine Node.sk 9 rfl ?_
        refine Node.sk 10 rfl ?_
        refine Node.sk 11 rfl ?_
        simp only [zA, zS, zZ, Act.put, zP, zQ, zR]
        refine Node.tk 12 ?_ rfl ?_ ?_
        rotate_left
        · intro w hSw; (try dsimp only at hSw); go_simp; try with_reducible rfl
        simp only [zA, zS, zZ, Act.put, zP, zQ, zR]
        refine wpAnyH_done (by kernel_rfl) ?_ _
        have r4 := below_at b4 (k := w.heap.size) F.res hgw
        have d0 := cell_at r4 0
        have d1 := cell_at r4 1
        have d2 := cell_at r4 2
        have e0 := free_at r4 0
        have e1 := free_at r4 1
        have e2 := free_at r4 2
        clear x0 x1 x2 z2
        go_wp2
        refine bodyPost_ret (res_frm2 (t := 2) (u := 3) rfl rfl (set_at (set_at (set_at r4 0 _) 1 _) 2 _)) rfl ⟨?_, ?_⟩
        · exact ((((F.B.drew).trans (b4.mono F.B.size)).setCell (by simp) _).setCell (by simp) _).setCell (by simp) _
        · exact FormR.bad (.inl HR.out) rfl
      · have HR := Lib.hid hr
        clear hr
        have hnp : ((n.toNat : Int) == (p.length : Int)) = true ∨ ((n.toNat : Int) == (p.length : Int)) = false := by cases ((n.toNat : Int) == (p.length : Int)) <;> simp
        rcases hnp with hnp | hnp
        all_goals
          have HNP := Lib.hid hnp
          have hnp2 : ((n.toNat : Int) != (p.length : Int)) = false ∨ ((n.toNat : Int) != (p.length : Int)) = true := by cases ((n.toNat : Int) != (p.length : Int)) <;> simp
          have hnp3 : ((n.toNat : Int) != (p.length : Int)) = !((n.toNat : Int) == (p.length : Int)) := rfl
          rcases hnp2 with hnp2 | hnp2
          all_goals first | (exfalso; rw [HNP.out, hnp2] at hnp3; cases hnp3; done) | skip
          clear hnp3
          go_wp2_with fail
          go_region_held3 (fun w' => w'.cell? ⟨gv, 0, none⟩ = some (.int .u8 (k.toNat : Int)) ∧ w'.cell? ⟨gv, 1, none⟩ = some (.int .u8 (s.toNat : Int)) ∧ w'.cell? ⟨gv, 2, none⟩ = some (.slice A2 p.length c2) ∧ w'.cell? ⟨g, 2, none⟩ = some (.int .u8 (n.toNat : Int)))
            (first | exact ⟨V4.c0, V4.c1, V4.c2, z4⟩ | exact ⟨x0, x1, x2, z2⟩)
            (first | (go_at_call 48; refine (refRight_g _ _ _ p true _ HR.out VD.sl).mono ?_; rintro e w4 ⟨rfl, b4⟩; have V4 := VD.later b4; have z4 := (b4.cell (p := ⟨g, 2, none⟩) hgs).trans z2))
          have r4 := below_at b4 (k := w.heap.size) F.res hgw
          have d0 := cell_at r4 0
          have d1 := cell_at r4 1
          have d2 := cell_at r4 2
          have e0 := free_at r4 0
          have e1 := free_at r4 1
          have e2 := free_at r4 2
          have y0 := V4.c0
          have y1 := V4.c1
          have y2 := V4.c2
          clear x0 x1 x2 z2 z4
          go_wp2
          refine bodyPost_ret (res_frm2 (t := 2) (u := 3) rfl rfl (set_at (set_at (set_at r4 0 _) 1 _) 2 _)) rfl ⟨?_, ?_⟩
          · exact ((((F.B.drew).trans (b4.mono F.B.size)).setCell (by simp) _).setCell (by simp) _).setCell (by simp) _
          · first
            | exact FormR.bad (.inr HNP.out) rfl
            | exact FormR.fine HR.out HNP.out rfl (slice_keep V4.sl ((((Keep.refl (fun q => q ≠ w.heap.size) w4).setCell (fun _ h => h rfl) _).setCell (fun _ h => h rfl) _).setCell (fun _ h => h rfl) _) F.ne)
end Go.Proofs.YtlanlkpamnoekaaDoor
namespace Go.Proofs.YtlanlkpamnoekaaDoor
open Go.RowKit Rf Mem Bv Crc Str
attribute [local go_sem ↓] run_max2 run_min2
theorem refTake_yes (k s : BitVec 8) (k' s' : Int) (v : Value) (p b : List (BitVec 8)) (w : World) (hk : k' = k.toNat) (hs' : s' = s.toNat) (hs : SliceAt w 1 v b.length (u8s b)) (hb : takeV b = (k, s, p, 0)) (hl2 : b.length ≤ 140737488355320) :
    Calls Tryd.prog 29 #[v] w fun e w' => Below w.heap.size w w' ∧ ∃ A c, e = .returned (.tuple #[fv k' s' (.slice A p.length c), .int .i64 0]) ∧ SliceAt w' 1 (.slice A p.length c) p.length (u8s p) := by
  subst hk hs'
  unfold takeV at hb
  split at hb
  · cases hb
  rename_i h5
  split at hb
  · rename_i he; simp only [Prod.mk.injEq] at hb; exact absurd hb.2.2.2 he
  rename_i he
  have he' : (openV b).2 = 0 := by simpa using he
  split at hb
  · rename_i k1 s1 n p1 heq
    split at hb
    · rename_i hc
      simp only [Prod.mk.injEq] at hb
      obtain ⟨rfl, rfl, rfl, _⟩ := hb
      refine (refTake_form v b k1 s1 n p1 w hs (by omega) hl2 (Prod.ext heq he')).mono ?_
      rintro e w' ⟨b1, h2⟩
      unfold FormR at h2
      rw [if_pos hc] at h2
      exact ⟨b1, h2⟩
    · simp at hb
  · simp at hb
theorem refTake_no (v : Value) (b : List (BitVec 8)) (er : Int) (w : World) (hs : SliceAt w 1 v b.length (u8s b)) (hb : (takeV b).2.2.2 = er) (h0 : er ≠ 0) (hl2 : b.length ≤ 140737488355320) :
    Calls Tryd.prog 29 #[v] w fun e w' => Below w.heap.size w w' ∧ e = .returned (.tuple #[fv 0 0 (.slice none 0 0), .int .i64 er]) := by
  subst hb
  unfold takeV at h0 ⊢
  split
  · rename_i h5
    exact refTake_short v b w hs h5
  · rename_i h5
    rw [if_neg h5] at h0
    split
    · rename_i he
      exact refTake_crc v b w hs (by omega) hl2 he
    · rename_i he
      rw [if_neg he] at h0
      have he' : (openV b).2 = 0 := by simpa using he
      have hlen := openV_len he'
      split
      · rename_i k1 s1 n p1 heq
        rw [heq] at h0
        dsimp only at h0
        split
        · rename_i hc; rw [if_pos hc] at h0; exact absurd rfl h0
        · rename_i hc
          refine (refTake_form v b k1 s1 n p1 w hs (by omega) hl2 (Prod.ext heq he')).mono ?_
          rintro e w' ⟨b1, h2⟩
          unfold FormR at h2
          rw [if_neg hc] at h2
          exact ⟨b1, h2⟩
      · rename_i hne
        exfalso
        rcases h : (openV b).1 with _ | ⟨a, _ | ⟨a2, _ | ⟨a3, p⟩⟩⟩
        · rw [h] at hlen; simp at hlen; omega
        · rw [h] at hlen; simp at hlen; omega
        · rw [h] at hlen; simp at hlen; omega
        · exact hne _ _ _ _ h
theorem refPut_g (k s : BitVec 8) (k' s' : Int) (v : Value) (p X : List (BitVec 8)) (w : World) (hk : k' = k.toNat) (hs' : s' = s.toNat) (hX : X = Crc.close (hb k s p)) (hs : SliceAt w 1 v p.length (u8s p)) (h : rightF k.toNat p.length = true) :
    Calls Tryd.prog 49 #[fv k' s' v] w fun e w' => Below w.heap.size w w' ∧ ∃ A c, e = .returned (.tuple #[.slice A X.length c, .int .i64 0]) ∧ SliceAt w' 1 (.slice A X.length c) X.length (u8s X) := by
  subst hk hs' hX
  refine (refPut_good k s v p w hs h).mono ?_
  rintro e w' ⟨b, v', rfl, ho⟩
  have S := sliceAt_of_own ho
  obtain ⟨A, c, rfl, _⟩ := S.form
  exact ⟨b, A, c, rfl, S⟩
/-- what Put answers -/
def putV (k s : BitVec 8) (p : List (BitVec 8)) : List (BitVec 8) × Int := if rightF k.toNat p.length then (Crc.close (hb k s p), 0) else ([], 2)
theorem refPut_t (k s : BitVec 8) (v : Value) (p X : List (BitVec 8)) (er : Int) (w : World) (hX : putV k s p = (X, er)) (hs : SliceAt w 1 v p.length (u8s p)) :
    Calls Tryd.prog 49 #[fv k.toNat s.toNat v] w fun e w' => Below w.heap.size w w' ∧ ∃ A c, e = .returned (.tuple #[.slice A X.length c, .int .i64 er]) ∧ SliceAt w' 1 (.slice A X.length c) X.length (u8s X) := by
  unfold putV at hX
  rcases hr : rightF k.toNat p.length with _ | _
  · rw [hr] at hX; simp at hX; obtain ⟨rfl, rfl⟩ := hX
    exact (refPut_bad _ _ v p w hs hr).mono fun e w' h => ⟨h.1, none, 0, h.2, .nil_ _ _⟩
  · rw [hr] at hX; simp at hX; obtain ⟨rfl, rfl⟩ := hX
    exact refPut_g k s _ _ v p _ w rfl rfl rfl hs hr
theorem takeV_no {b : List (BitVec 8)} (h : (takeV b).2.2.2 ≠ 0) : takeV b = (0#8, 0#8, [], (takeV b).2.2.2) := by
  unfold takeV at h ⊢
  split
  · rfl
  · rename_i h5
    rw [if_neg h5] at h
    split
    · rfl
    · rename_i he
      rw [if_neg he] at h
      split
      · rename_i k1 s1 n p1 heq
        rw [heq] at h
        dsimp only at h
        split
        · rename_i hc; rw [if_pos hc] at h; exact absurd rfl h
        · rfl
      · rfl
theorem Take_t (v : Value) (b : List (BitVec 8)) (k s : BitVec 8) (p : List (BitVec 8)) (er : Int) (w : World) (hb : takeV b = (k, s, p, er)) (hs : SliceAt w 1 v b.length (u8s b)) (hl2 : b.length ≤ 140737488355320) :
    Calls Tryd.prog 32 #[v] w fun e w' => Below w.heap.size w w' ∧ ∃ A c, e = .returned (.tuple #[fv k.toNat s.toNat (.slice A p.length c), .int .i64 er]) ∧ SliceAt w' 1 (.slice A p.length c) p.length (u8s p) := by
  by_cases h0 : er = 0
  · subst h0
    exact Take_yes k s _ _ v p b w rfl rfl hs hb (by omega)
  · have h1 : (takeV b).2.2.2 = er := by rw [hb]
    have h2 := takeV_no (b := b) (by rw [h1]; exact h0)
    rw [hb] at h2
    simp only [Prod.mk.injEq] at h2
    obtain ⟨rfl, rfl, rfl, _⟩ := h2
    exact (Take_no v b er w hs h1 h0 (by omega)).mono fun e w' h => ⟨h.1, none, 0, h.2, .nil_ _ _⟩
theorem refTake_t (v : Value) (b : List (BitVec 8)) (k s : BitVec 8) (p : List (BitVec 8)) (er : Int) (w : World) (hb : takeV b = (k, s, p, er)) (hs : SliceAt w 1 v b.length (u8s b)) (hl2 : b.length ≤ 140737488355320) :
    Calls Tryd.prog 29 #[v] w fun e w' => Below w.heap.size w w' ∧ ∃ A c, e = .returned (.tuple #[fv k.toNat s.toNat (.slice A p.length c), .int .i64 er]) ∧ SliceAt w' 1 (.slice A p.length c) p.length (u8s p) := by
  by_cases h0 : er = 0
  · subst h0
    exact refTake_yes k s _ _ v p b w rfl rfl hs hb (by omega)
  · have h1 : (takeV b).2.2.2 = er := by rw [hb]
    have h2 := takeV_no (b := b) (by rw [h1]; exact h0)
    rw [hb] at h2
    simp only [Prod.mk.injEq] at h2
    obtain ⟨rfl, rfl, rfl, _⟩ := h2
    exact (refTake_no v b er w hs h1 h0 (by omega)).mono fun e w' h => ⟨h.1, none, 0, h.2, .nil_ _ _⟩
theorem refNewer_g (n was : Int) (r : Bool) (w : World) (hr : r = newer n was) (h1 : 0 ≤ n) (h2 : n < 256) (h3 : 0 ≤ was) (h4 : was < 256) : Calls Tryd.prog 30 #[.int .u8 n, .int .u8 was] w fun e w' => e = .returned (.bool r) ∧ w = w' := by subst hr; exact refNewer_c n was w h1 h2 h3 h4
end Go.Proofs.YtlanlkpamnoekaaDoor
namespace Go.Proofs.YtlanlkpamnoekaaDoor
open Go.RowKit Rf Mem Bv Crc Str
set_option maxRecDepth 100000
attribute [local go_sem ↓] run_max2 run_min2

/-- a panel's frame of a number -/
def panelV (s : BitVec 8) : List (BitVec 8) := Crc.close (hb 2#8 s [])
theorem panel_c (s : BitVec 8) (s' : Int) (hs' : s' = s.toNat) (X : List (BitVec 8)) (hX : X = panelV s) (w : World) : Calls Tryd.prog 31 #[.int .u8 s'] w fun e w' => Below w.heap.size w w' ∧ ∃ A c, e = .returned (.slice A X.length c) ∧ SliceAt w' 1 (.slice A X.length c) X.length (u8s X) := by
  have hP := fun (W : World) => refPut_g 2#8 s 2 s' (.slice none 0 0) [] X W rfl hs' hX (.nil_ _ _) (by rfl)
  clear hX hs'
  go_enter Tryd.func31, Tryd.ntmps31
  go_wp2_with fail
  refine (hP _).mono ?_
  rintro e W ⟨b, A, c, rfl, hs⟩
  go_wp2
  go_ret
  exact ⟨b, A, c, rfl, hs⟩

/-- what great tells -/
def Gr29 (xs : List (List (BitVec 8))) (e : Ending) : Prop := ∃ r : Bool, e = .returned (.bool r) ∧ (r = false → xs.length ≤ 60 ∧ ∀ x ∈ xs, x.length ≤ 200)

set_option maxHeartbeats 1000000 in
theorem great_c (lv : Value) (vs : List Value) (xs : List (List (BitVec 8))) (w : World) (hs : SliceAt w 1 lv vs.length vs) (hE : Els w vs xs) : Calls Tryd.prog 9 #[lv] w fun e w' => Gr29 xs e ∧ w = w' := by
  obtain ⟨n, hn⟩ : ∃ n, vs.length = n := ⟨_, rfl⟩
  have hxn : xs.length = n := by rw [← hE.len]; exact hn
  rw [hn] at hs
  obtain ⟨A, c, rfl, hnc, hc⟩ := hs.form
  have HX := Lib.hid hxn
  have HE := Lib.hid hE
  have HS := Lib.hid hs
  clear hn hxn hE hs
  go_enter Tryd.func9, Tryd.ntmps9
  go_wp2
  go_loopw [3] (fun i wr => ∃ k : Nat, k ≤ n ∧ k ≤ 61 ∧ i = .int .i64 k ∧ Hid (∀ j x, j < k → xs[j]? = some x → x.length ≤ 200) ∧ wr = w) (fun i _ => n - (intOf i).toNat)
  case atStart => exact ⟨0, Nat.zero_le _, by omega, rfl, Lib.hid (fun j x hj => by omega), rfl⟩
  case round =>
    obtain ⟨k, hk, hk61, rfl, hle, rfl⟩ := hrel
    by_cases hlt : k < n
    · by_cases h60 : k ≤ 60
      · obtain ⟨x, hx⟩ : ∃ x, xs[k]? = some x := ⟨_, List.getElem?_eq_getElem (by rw [HX.out]; exact hlt)⟩
        obtain ⟨A1, c1, h1, h2, _⟩ := HE.out.get k x hx
        obtain ⟨b, off, c', e, _, _, hbl, hcell⟩ := HS.out.pos (by omega)
        obtain ⟨rfl, _, rfl⟩ := Value.slice.inj e
        have hcell' := hcell k _ h1
        have HC := Lib.hid h2.form
        have HXX := Lib.hid hx
        clear hx h1 h2 e hcell
        by_cases hbig : x.length ≤ 200
        · have hle' : ∀ j x, j < k + 1 → xs[j]? = some x → x.length ≤ 200 := fun j y hj hy => by
            rcases Nat.lt_or_ge j k with h | h
            · exact hle.out j y h hy
            · obtain rfl : j = k := by omega
              rw [HXX.out] at hy
              cases hy
              exact hbig
          have HL := Lib.hid hle'
          clear hle'
          go_wp2
          exact ⟨⟨k + 1, by omega, by omega, by go_num, HL, trivial⟩, by simp [intOf]; omega⟩
        · go_wp2
          go_ret
          exact ⟨⟨true, rfl, fun h => by cases h⟩, rfl⟩
      · obtain rfl : k = 61 := by omega
        have q1 : decide ((60 : Int) < (n : Int)) = true := decide_eq_true (by omega)
        go_wp2
        go_ret
        exact ⟨⟨_, rfl, fun h => by cases h⟩, rfl⟩
    · obtain rfl : k = n := by omega
      go_wp2
      go_ret
      refine ⟨⟨_, rfl, fun h => ⟨by have := of_decide_eq_false h; rw [HX.out]; omega, fun x hx => ?_⟩⟩, rfl⟩
      obtain ⟨j, hj⟩ := List.getElem?_of_mem hx
      exact hle.out j x (by have := (List.getElem?_eq_some_iff.1 hj).1; rw [HX.out] at this; exact this) hj
end Go.Proofs.YtlanlkpamnoekaaDoor
namespace Go.Proofs.YtlanlkpamnoekaaDoor
open Go.RowKit Rf Mem Bv Crc Str
theorem take_hb (k s : BitVec 8) (p : List (BitVec 8)) (h : rightF k.toNat p.length = true) : takeV (Crc.close (hb k s p)) = (k, s, p, 0) := by
  have hl : p.length ≤ 59 := by unfold rightF at h; simp at h; exact h.2
  unfold takeV
  rw [if_neg (by simp [Crc.close, hb]), open_close, if_neg (by simp)]
  dsimp only [hb]
  rw [if_pos]
  rw [h, Bool.true_and, beq_iff_eq, BitVec.toNat_ofNat, Nat.mod_eq_of_lt (by omega)]
end Go.Proofs.YtlanlkpamnoekaaDoor
