/- FrameOnly: for every argument the statement's Go text returns true and turns nothing that was there. It is proved at every argument, without a condition beyond the row. -/
import Derived.Test.YtbjhmaefjgihlaaFrmW
import Derived.Test.YtbjhmaefjgihlaaFrmArg
import Derived.Test.YtbjhmaefjgihlaaFrame
import Derived.Deep.RegionHeld3
import Derived.Deep.DrawnRows
namespace Go.Proofs.Ytbjhmaefjgihlaa.frameOnly
open Go.ChangeShapes Go.WideShapes Go.ChangeAt Go.RowKit Rf
attribute [local go_sem ↓] run_max2 run_min2
open Mem Bv Crc Str
theorem same_g (v u : Value) (a b : List (BitVec 8)) (r : Bool) (w : World) (hr : r = decide (a = b)) (ha : SliceAt w 1 v a.length (u8s a)) (hb : SliceAt w 1 u b.length (u8s b)) :
    Calls Try.prog 13 #[v, u] w fun e w' => e = .returned (.bool r) ∧ w = w' := by subst hr; exact same_c v u a b w ha hb
theorem below_drewN {n : Nat} {a w : World} (h : Below n a w) (m : Nat) : Below n a (w.drewN m) := ⟨h.os, h.tape, h.output, h.size, h.block⟩
theorem takeV_zero {b : List (BitVec 8)} (h : (takeV b).2.2.2 ≠ 0) : takeV b = (0#8, 0#8, [], (takeV b).2.2.2) := by
  unfold takeV at h ⊢
  split
  · rfl
  · rename_i h5
    rw [if_neg h5] at h
    split
    · rfl
    · rename_i he
      rw [if_neg he] at h
      split
      · rename_i k s n p heq
        rw [heq] at h
        dsimp only at h
        split
        · rename_i hc; rw [if_pos hc] at h; exact absurd rfl h
        · rfl
      · rfl
theorem Take_v (v : Value) (b : List (BitVec 8)) (k s : BitVec 8) (p : List (BitVec 8)) (er k' s' : Int) (w : World) (hk : k' = k.toNat) (hs' : s' = s.toNat) (hs : SliceAt w 1 v b.length (u8s b)) (hb : takeV b = (k, s, p, er)) (hl2 : b.length ≤ 140737488355328) :
    Calls Try.prog 11 #[v] w fun e w' => Below w.heap.size w w' ∧ ∃ A c, e = .returned (.tuple #[fv k' s' (.slice A p.length c), .int .i64 er]) ∧ SliceAt w' 1 (.slice A p.length c) p.length (u8s p) := by
  by_cases h : er = 0
  · subst h; exact Take_yes k s k' s' v p b w hk hs' hs hb hl2
  · have hz := takeV_zero (b := b) (by rw [hb]; exact h)
    rw [hb] at hz
    simp only [Prod.mk.injEq] at hz
    obtain ⟨rfl, rfl, rfl, _⟩ := hz
    subst hk hs'
    refine (Take_no v b er w hs (by rw [hb]) h hl2).mono ?_
    rintro e w' ⟨b1, rfl⟩
    exact ⟨b1, none, 0, rfl, SliceAt.nil_ _ _⟩
theorem take_put {b : List (BitVec 8)} {k s : BitVec 8} {p : List (BitVec 8)} (h : takeV b = (k, s, p, 0)) : rightF k.toNat p.length = true ∧ b = Crc.close (hb k s p) := by
  unfold takeV at h
  split at h
  · cases h
  split at h
  · rename_i he; simp only [Prod.mk.injEq] at h; exact absurd h.2.2.2 he
  rename_i h5 he
  have he' : (openV b).2 = 0 := by simpa using he
  split at h
  · rename_i k1 s1 n p1 heq
    split at h
    · rename_i hc
      simp only [Prod.mk.injEq] at h
      obtain ⟨rfl, rfl, rfl, _⟩ := h
      rw [Bool.and_eq_true, beq_iff_eq] at hc
      refine ⟨hc.1, ?_⟩
      have hn : n = BitVec.ofNat 8 p1.length := by
        apply BitVec.eq_of_toNat_eq
        rw [BitVec.toNat_ofNat]
        have := n.isLt
        have h2 := hc.2
        omega
      have hcl : b = Crc.close (openV b).1 := by
        unfold openV at he' ⊢
        split at he'
        · cases he'
        · split at he'
          · rename_i h6 h7; rw [if_neg h6, if_pos h7]; exact h7.symm
          · cases he'
      rw [heq, hn] at hcl
      exact hcl
    · simp at h
  · simp at h
theorem err_40 {b : List (BitVec 8)} (h : (takeV b).2.2.2 ≠ 0) : ((takeV b).2.2.2 == 40) = decide (b.length < 5) := by
  unfold takeV at h ⊢
  split
  · rename_i h5; rw [decide_eq_true h5]; rfl
  · rename_i h5
    rw [decide_eq_false h5]
    rw [if_neg h5] at h
    split
    · rename_i he
      dsimp only
      unfold openV at he ⊢
      rw [if_neg (by omega)] at he ⊢
      split
      · rename_i h7; rw [if_pos h7] at he; exact absurd rfl he
      · rfl
    · rename_i he
      rw [if_neg he] at h
      split
      · rename_i k s n p heq
        rw [heq] at h
        dsimp only at h
        split
        · rename_i hc
          rw [if_pos hc] at h; exact absurd rfl h
        · rfl
      · rfl
theorem take_close (x0 x1 x2 : BitVec 8) (p : List (BitVec 8)) : takeV (Crc.close (x0 :: x1 :: x2 :: p)) = if rightF x0.toNat p.length && ((x2.toNat : Int) == (p.length : Int)) then (x0, x1, p, 0) else (0#8, 0#8, [], 41) := by
  unfold takeV
  rw [if_neg (by simp [Crc.close]), open_close, if_neg (by simp)]
theorem take_close_short {b : List (BitVec 8)} (h : b.length < 3) : takeV (Crc.close b) = (0#8, 0#8, [], 40) := by
  unfold takeV
  rw [if_pos (by simp [Crc.close]; omega)]
structure PO (w W : World) (g0 g1 : Nat) (kf sf kg sg : Int) (vf vg vb : Value) (pf pg b : List (BitVec 8)) : Prop where
  f : FVar W g0 kf sf vf pf
  g : FVar W g1 kg sg vg pg
  sb : SliceAt W 1 vb b.length (u8s b)
  below : Below w.heap.size w W
theorem PO.later {w W W' : World} {g0 g1 : Nat} {kf sf kg sg : Int} {vf vg vb : Value} {pf pg b : List (BitVec 8)} (h : PO w W g0 g1 kf sf kg sg vf vg vb pf pg b) (hb : Below W.heap.size W W') : PO w W' g0 g1 kf sf kg sg vf vg vb pf pg b :=
  ⟨h.f.later hb, h.g.later hb, h.sb.later hb, below_step h.below hb⟩
set_option maxHeartbeats 4000000 in
set_option maxRecDepth 100000 in
theorem walk_short (v : Value) (b : List (BitVec 8)) (w : World) (hs : SliceAt w 1 v b.length (u8s b)) (h3 : b.length < 3) : Calls Try.prog 5 #[v] w fun e w' => e = .returned (.bool true) ∧ Below w.heap.size w w' := by
  have hs0 := hs
  obtain ⟨A, c, rfl, _⟩ := hs.form
  have q0 : decide ((100 : Int) < (b.length : Int)) = false := decide_eq_false (by omega)
  have q1 : decide ((3 : Int) ≤ (b.length : Int)) = false := decide_eq_false (by omega)
  have q2 : decide ((b.length : Int) < 3) = true := decide_eq_true (by omega)
  have q3 : decide ((b.length : Int) < 5) = true := decide_eq_true (by omega)
  have ht : takeV b = (0#8, 0#8, [], 40) := by unfold takeV; rw [if_pos (by omega)]
  have hlc : (Crc.close b).length = b.length + 2 := by simp [Crc.close]
  have HT := Lib.hid ht
  have HLC := Lib.hid hlc
  clear ht hlc hs
  go_enter Try.func5, Try.ntmps5
  go_wp2_with fail
  refine (Take_v _ b 0#8 0#8 [] 40 0 0 _ (by rfl) (by rfl) hs0 HT.out (by omega)).mono ?_
  rintro e w1 ⟨b1, A1, c1, rfl, s1⟩
  have V0 := FVar.new (k := 0) (s := 0) (v := .slice A1 0 c1) (p := []) s1
  replace b1 := below_step b1 (below_new w1 (.cells #[.int .u8 0, .int .u8 0, .slice A1 0 c1] 24))
  replace hs0 := hs0.later b1
  have BB := b1
  clear b1 s1
  go_wp2_with fail
  generalize w1.alloc (.cells #[.int .u8 0, .int .u8 0, .slice A1 0 c1] 24) = W1 at *
  refine (refClose_c _ b _ hs0 (by omega)).mono ?_
  rintro e w2 ⟨v2, rfl, ho2, b2⟩
  have s2 := sliceAt_of_own ho2
  rw [← HLC.out] at s2
  replace V0 := V0.later b2
  replace hs0 := hs0.later b2
  replace BB := below_step BB b2
  clear b2 ho2
  go_wp2_with fail
  refine (Take_v _ (Crc.close b) 0#8 0#8 [] 40 0 0 _ (by rfl) (by rfl) s2 (take_close_short h3) (by rw [HLC.out]; omega)).mono ?_
  rintro e w3 ⟨b3, A3, c3, rfl, s3⟩
  have V1 := FVar.new (k := 0) (s := 0) (v := .slice A3 0 c3) (p := []) s3
  replace b3 := below_step b3 (below_new w3 (.cells #[.int .u8 0, .int .u8 0, .slice A3 0 c3] 24))
  replace V0 := V0.later b3
  replace hs0 := hs0.later b3
  replace BB := below_step BB b3
  clear b3 s3 s2
  have x0 := V0.c0
  have x2 := V0.c2
  go_wp2_with fail
  generalize w3.alloc (.cells #[.int .u8 0, .int .u8 0, .slice A3 0 c3] 24) = W3 at *
  go_quiet (fail)
  go_wp2_with fail
  refine (wakes_c _).mono ?_
  rintro e w9 ⟨rfl, b9⟩
  go_wp2
  go_ret
  exact ⟨rfl, below_step (below_drewN BB _) b9⟩
def fine (x0 x2 : BitVec 8) (n : Nat) : Bool := rightF x0.toNat n && ((x2.toNat : Int) == (n : Int))
theorem fine_cases (x0 x2 : BitVec 8) (n : Nat) (L X0 X2 : Int) (hL : L = n + 3) (h0 : X0 = x0.toNat) (h2 : X2 = x2.toNat) :
    (fine x0 x2 n = true ∧ decide (1 ≤ X0) = true ∧ decide (X0 ≤ 3) = true ∧ (X2 == L - 3) = true ∧ decide (L + 2 ≤ 64) = true) ∨
    (fine x0 x2 n = false ∧ (decide (1 ≤ X0) = false ∨ (decide (1 ≤ X0) = true ∧ decide (X0 ≤ 3) = false) ∨ (decide (1 ≤ X0) = true ∧ decide (X0 ≤ 3) = true ∧ (X2 == L - 3) = false) ∨ (decide (1 ≤ X0) = true ∧ decide (X0 ≤ 3) = true ∧ (X2 == L - 3) = true ∧ decide (L + 2 ≤ 64) = false))) := by
  subst hL h0 h2
  have key : fine x0 x2 n = true ↔ (1 ≤ (x0.toNat : Int) ∧ (x0.toNat : Int) ≤ 3 ∧ (x2.toNat : Int) = n + 3 - 3 ∧ (n : Int) + 3 + 2 ≤ 64) := by
    unfold fine rightF
    simp only [Bool.and_eq_true, decide_eq_true_eq, beq_iff_eq]
    omega
  by_cases c1 : 1 ≤ (x0.toNat : Int)
  · by_cases c2 : (x0.toNat : Int) ≤ 3
    · by_cases c3 : (x2.toNat : Int) = n + 3 - 3
      · by_cases c4 : (n : Int) + 3 + 2 ≤ 64
        · exact .inl ⟨key.2 ⟨c1, c2, c3, c4⟩, decide_eq_true c1, decide_eq_true c2, beq_iff_eq.2 c3, decide_eq_true c4⟩
        · exact .inr ⟨by rw [← Bool.not_eq_true]; intro h; exact c4 (key.1 h).2.2.2, .inr (.inr (.inr ⟨decide_eq_true c1, decide_eq_true c2, beq_iff_eq.2 c3, decide_eq_false c4⟩))⟩
      · exact .inr ⟨by rw [← Bool.not_eq_true]; intro h; exact c3 (key.1 h).2.2.1, .inr (.inr (.inl ⟨decide_eq_true c1, decide_eq_true c2, beq_eq_false_iff_ne.2 c3⟩))⟩
    · exact .inr ⟨by rw [← Bool.not_eq_true]; intro h; exact c2 (key.1 h).2.1, .inr (.inl ⟨decide_eq_true c1, decide_eq_false c2⟩)⟩
  · exact .inr ⟨by rw [← Bool.not_eq_true]; intro h; exact c1 (key.1 h).1, .inl (decide_eq_false c1)⟩
set_option maxHeartbeats 8000000 in
set_option maxRecDepth 100000 in
theorem walk_long (v : Value) (x0 x1 x2 : BitVec 8) (p b : List (BitVec 8)) (w : World) (hb0 : b = x0 :: x1 :: x2 :: p) (hs : SliceAt w 1 v b.length (u8s b)) (h100 : b.length ≤ 100) : Calls Try.prog 5 #[v] w fun e w' => e = .returned (.bool true) ∧ Below w.heap.size w w' := by
  have hbl : b.length = p.length + 3 := by rw [hb0]; simp
  obtain ⟨L, hL⟩ : ∃ L, b.length = L := ⟨_, rfl⟩
  obtain ⟨X0, hX0⟩ : ∃ X : Int, X = x0.toNat := ⟨_, rfl⟩
  obtain ⟨X1, hX1⟩ : ∃ X : Int, X = x1.toNat := ⟨_, rfl⟩
  obtain ⟨X2, hX2⟩ : ∃ X : Int, X = x2.toNat := ⟨_, rfl⟩
  have hc0 : (u8s b)[0]? = some (.int .u8 X0) := by rw [hb0, hX0]; rfl
  have hc1 : (u8s b)[1]? = some (.int .u8 X1) := by rw [hb0, hX1]; rfl
  have hc2 : (u8s b)[2]? = some (.int .u8 X2) := by rw [hb0, hX2]; rfl
  have htc : takeV (Crc.close b) = if fine x0 x2 p.length then (x0, x1, p, 0) else (0#8, 0#8, [], 41) := by rw [hb0]; exact take_close x0 x1 x2 p
  obtain ⟨kf, sf, pf, er, htb⟩ : ∃ k s q e, takeV b = (k, s, q, e) := ⟨_, _, _, _, rfl⟩
  obtain ⟨KF, hKF⟩ : ∃ X : Int, X = kf.toNat := ⟨_, rfl⟩
  obtain ⟨SF, hSF⟩ : ∃ X : Int, X = sf.toNat := ⟨_, rfl⟩
  have hfc := fine_cases x0 x2 p.length L X0 X2 (by omega) hX0 hX2
  have hs0 := hs
  rw [hL] at hs0
  obtain ⟨gb, off, c, rfl, hcL, hcM, hgb, hcell⟩ := hs0.pos (by omega)
  have y0 := hcell 0 _ hc0
  have y1 := hcell 1 _ hc1
  have y2 := hcell 2 _ hc2
  rw [Nat.add_zero] at y0
  have j0 : 0 < L := by omega
  have j1 : (1 : Int) < (L : Int) := by omega
  have j2 : (2 : Int) < (L : Int) := by omega
  have j3 : (3 : Int) ≤ (L : Int) := by omega
  have j4 : (L : Int) ≤ 100 := by omega
  have j5 : (L : Int) ≤ (c : Int) := by omega
  have j6 : (0 : Int) ≤ X2 ∧ X2 < 256 := by have := x2.isLt; omega
  obtain ⟨j6, j7⟩ := j6
  have hwx : IntKind.i64.wrap X2 = X2 := IntWalk.i64_in _ (by omega)
  have q0 : decide ((100 : Int) < (L : Int)) = false := decide_eq_false (by omega)
  have hpl : L = p.length + 3 := by omega
  have hlc : (Crc.close b).length = L + 2 := by simp [Crc.close, hL]
  have HLC := Lib.hid hlc
  have HL := Lib.hid hL
  have HPL := Lib.hid hpl
  have HTB := Lib.hid htb
  have HTC := Lib.hid htc
  have HB0 := Lib.hid hb0
  have HK := Lib.hid hKF
  have HSF := Lib.hid hSF
  have H0 := Lib.hid hX0
  have H1 := Lib.hid hX1
  have herr : er ≠ 0 → (er == 40) = decide (b.length < 5) ∧ kf = 0#8 ∧ pf = [] := fun h => by
    have e1 : (takeV b).2.2.2 = er := by rw [htb]
    have h2 := err_40 (b := b) (by rw [e1]; exact h)
    have h3 := takeV_zero (b := b) (by rw [e1]; exact h)
    rw [e1] at h2 h3
    rw [htb] at h3
    simp only [Prod.mk.injEq] at h3
    exact ⟨h2, h3.1, h3.2.2.1⟩
  have HERR := Lib.hid herr
  clear hbl hL hX0 hX1 hX2 hc0 hc1 hc2 htc htb hKF hSF hpl hlc hb0 herr hs0 hcell hcL hcM
  rw [HL.out] at hs
  have hcase : (c = 3 ∧ SliceAt w 1 (.slice (some ⟨gb, off, none⟩) (L - 3) 0) p.length (u8s p)) ∨ (¬ c = 3 ∧ SliceAt w 1 (.slice (some ⟨gb, off + 3, none⟩) (L - 3) (c - 3)) p.length (u8s p)) := by
    have hsub := hs.sub (lo := 3) (hi := L) (by omega) (Nat.le_refl _)
    have hp3 : L - 3 = p.length := by have := HPL.out; omega
    have e : List.take ((L - 3) * 1) (List.drop (3 * 1) (u8s b)) = u8s p := by
      rw [HB0.out, hp3]
      simp only [u8s, List.map_cons, Nat.mul_one, Nat.one_mul, List.drop_succ_cons, List.drop_zero]; exact List.take_of_length_le (by simp)
    rw [e] at hsub
    rw [hp3] at hsub ⊢
    by_cases hc3 : c = 3
    · left; rw [if_pos hc3] at hsub; rw [hc3] at hsub; exact ⟨hc3, hsub⟩
    · right; rw [if_neg hc3] at hsub; exact ⟨hc3, by simpa [Addr.add] using hsub⟩
  have HC := Lib.hid hcase
  have hs1 : SliceAt w 1 (.slice (some ⟨gb, off, none⟩) L c) b.length (u8s b) := by rw [HL.out]; exact hs
  have hl2 : b.length ≤ 140737488355320 := by omega
  clear hcase hs
  go_enter Try.func5, Try.ntmps5
  go_wp2_with fail
  refine (Take_v _ b kf sf pf er KF SF _ HK.out HSF.out hs1 HTB.out (by omega)).mono ?_
  rintro e w1 ⟨b1, A1, c1, rfl, s1⟩
  have V0 := FVar.new (k := KF) (s := SF) s1
  replace b1 := below_step b1 (below_new w1 (.cells #[.int .u8 KF, .int .u8 SF, .slice A1 pf.length c1] 24))
  have hs2 := hs1.later b1
  have BB := b1
  clear b1 s1
  go_wp2_with fail
  generalize w1.alloc (.cells #[.int .u8 KF, .int .u8 SF, .slice A1 pf.length c1] 24) = W1 at *
  refine (refClose_c _ b _ hs2 hl2).mono ?_
  rintro e w2 ⟨v2, rfl, ho2, b2⟩
  have s2 := sliceAt_of_own ho2
  rw [HL.out, ← HLC.out] at s2
  replace V0 := V0.later b2
  replace BB := below_step BB b2
  obtain ⟨A2, c2, rfl, _⟩ := (sliceAt_of_own ho2).form
  rw [HL.out]
  rw [HL.out] at s2
  clear b2 ho2 hs2
  rcases hfc with ⟨hf, f1, f2, f3, f4⟩ | ⟨hf, f1 | ⟨f1, f2⟩ | ⟨f1, f2, f3⟩ | ⟨f1, f2, f3, f4⟩⟩
  · have hft := HTC.out
    rw [hf, if_pos rfl] at hft
    have HFT := Lib.hid hft
    clear hft hf
    rcases HC.out with ⟨rfl, h3⟩ | ⟨hc3, h3⟩
    all_goals
      go_wp2_with fail
      refine (Take_v _ (Crc.close b) x0 x1 p 0 X0 X1 _ H0.out H1.out s2 HFT.out (by rw [HLC.out]; omega)).mono ?_
      rintro e w3 ⟨b3, A3, c3, rfl, s3⟩
      have V1 := FVar.new (k := X0) (s := X1) s3
      replace b3 := below_step b3 (below_new w3 (.cells #[.int .u8 X0, .int .u8 X1, .slice A3 p.length c3] 24))
      replace V0 := V0.later b3
      replace BB := below_step BB b3
      clear b3 s3 s2
      have u0 := V1.c0
      have u1 := V1.c1
      have u2 := V1.c2
      have x0 := V0.c0
      have x1 := V0.c1
      have x2 := V0.c2
      have z0 := (BB.cell (p := ⟨gb, off, none⟩) hgb).trans y0
      have z1 := (BB.cell (p := ⟨gb, off + 1, none⟩) hgb).trans y1
      have z2 := (BB.cell (p := ⟨gb, off + 2, none⟩) hgb).trans y2
      have h3' := h3.later BB
      go_wp2_with fail
      generalize w3.alloc (.cells #[.int .u8 X0, .int .u8 X1, .slice A3 p.length c3] 24) = W3 at *
      go_quiet ((go_at_call 13; exact Calls.quiet_of_same ((same_g _ _ p p true _ (decide_eq_true rfl).symm ((V1.later (below_drewN (Below.refl _ W3) _)).sl) (h3'.later (below_drewN (Below.refl _ W3) _))).mono (fun _ _ h => ⟨h.1, h.2.symm⟩))))
      have V0d := fun m => V0.later (below_drewN (Below.refl _ W3) m)
      by_cases her : er = 0
      · subst her
        obtain ⟨hrf, hbc⟩ := take_put HTB.out
        have HBC := Lib.hid hbc
        have HRF := Lib.hid hrf
        clear hbc hrf
        go_wp2_with fail
        refine (Put_g kf sf KF SF _ pf b _ HK.out HSF.out HBC.out (V0d _).sl HRF.out).mono ?_
        rintro e w5 ⟨b5, A5, c5, rfl, s5⟩
        have hs5 := hs1.later (below_step (below_drewN BB _) b5)
        rw [HL.out]
        go_wp2_with fail
        refine (same_g _ _ b b true _ (decide_eq_true rfl).symm (by rw [HL.out] at s5 ⊢; exact s5) hs5).mono ?_
        rintro e w' ⟨rfl, rfl⟩
        go_wp2_with fail
        refine (wakes_c _).mono ?_
        rintro e w9 ⟨rfl, b9⟩
        go_wp2
        go_ret
        exact ⟨rfl, below_step (below_step (below_drewN BB _) b5) b9⟩
      · obtain ⟨h40, rfl, rfl⟩ := HERR.out her
        obtain rfl : KF = 0 := HK.out
        have q7 : (er != 0) = true := bne_iff_ne.2 her
        rw [HL.out] at h40
        have hq : (decide (L < 5) = true ∧ decide ((L : Int) < 5) = true ∧ (er == 40) = true) ∨ (decide (L < 5) = false ∧ decide ((L : Int) < 5) = false ∧ (er == 40) = false) := by
          by_cases h5 : L < 5
          · exact .inl ⟨decide_eq_true h5, decide_eq_true (by omega), by rw [h40]; exact decide_eq_true h5⟩
          · exact .inr ⟨decide_eq_false h5, decide_eq_false (by omega), by rw [h40]; exact decide_eq_false h5⟩
        clear h40 her
        rcases hq with ⟨q8, q9, q10⟩ | ⟨q8, q9, q10⟩
        all_goals
          go_wp2_with fail
          refine (wakes_c _).mono ?_
          rintro e w9 ⟨rfl, b9⟩
          go_wp2
          go_ret
          exact ⟨rfl, below_step (below_drewN BB _) b9⟩
  all_goals
    have hft := HTC.out
    rw [hf, if_neg (by simp)] at hft
    have HFT := Lib.hid hft
    clear hft hf
    go_wp2_with fail
    refine (Take_v _ (Crc.close b) 0#8 0#8 [] 41 0 0 _ (by rfl) (by rfl) s2 HFT.out (by rw [HLC.out]; omega)).mono ?_
    rintro e w3 ⟨b3, A3, c3, rfl, s3⟩
    replace b3 := below_step b3 (below_new w3 (.cells #[.int .u8 0, .int .u8 0, .slice A3 0 c3] 24))
    replace V0 := V0.later b3
    replace BB := below_step BB b3
    clear b3 s3 s2
    have x0 := V0.c0
    have x1 := V0.c1
    have x2 := V0.c2
    have z0 := (BB.cell (p := ⟨gb, off, none⟩) hgb).trans y0
    have z1 := (BB.cell (p := ⟨gb, off + 1, none⟩) hgb).trans y1
    have z2 := (BB.cell (p := ⟨gb, off + 2, none⟩) hgb).trans y2
    go_wp2_with fail
    generalize w3.alloc (.cells #[.int .u8 0, .int .u8 0, .slice A3 0 c3] 24) = W3 at *
    go_quiet (fail)
    have V0d := fun m => V0.later (below_drewN (Below.refl _ W3) m)
    by_cases her : er = 0
    · subst her
      obtain ⟨hrf, hbc⟩ := take_put HTB.out
      have HBC := Lib.hid hbc
      have HRF := Lib.hid hrf
      clear hbc hrf
      go_wp2_with fail
      refine (Put_g kf sf KF SF _ pf b _ HK.out HSF.out HBC.out (V0d _).sl HRF.out).mono ?_
      rintro e w5 ⟨b5, A5, c5, rfl, s5⟩
      have hs5 := hs1.later (below_step (below_drewN BB _) b5)
      rw [HL.out]
      go_wp2_with fail
      refine (same_g _ _ b b true _ (decide_eq_true rfl).symm (by rw [HL.out] at s5 ⊢; exact s5) hs5).mono ?_
      rintro e w' ⟨rfl, rfl⟩
      go_wp2_with fail
      refine (wakes_c _).mono ?_
      rintro e w9 ⟨rfl, b9⟩
      go_wp2
      go_ret
      exact ⟨rfl, below_step (below_step (below_drewN BB _) b5) b9⟩
    · obtain ⟨h40, rfl, rfl⟩ := HERR.out her
      obtain rfl : KF = 0 := HK.out
      have q7 : (er != 0) = true := bne_iff_ne.2 her
      rw [HL.out] at h40
      have hq : (decide (L < 5) = true ∧ decide ((L : Int) < 5) = true ∧ (er == 40) = true) ∨ (decide (L < 5) = false ∧ decide ((L : Int) < 5) = false ∧ (er == 40) = false) := by
        by_cases h5 : L < 5
        · exact .inl ⟨decide_eq_true h5, decide_eq_true (by omega), by rw [h40]; exact decide_eq_true h5⟩
        · exact .inr ⟨decide_eq_false h5, decide_eq_false (by omega), by rw [h40]; exact decide_eq_false h5⟩
      clear h40 her
      rcases hq with ⟨q8, q9, q10⟩ | ⟨q8, q9, q10⟩
      all_goals
        go_wp2_with fail
        refine (wakes_c _).mono ?_
        rintro e w9 ⟨rfl, b9⟩
        go_wp2
        go_ret
        exact ⟨rfl, below_step (below_drewN BB _) b9⟩
theorem walk (v : Value) (b : List (BitVec 8)) (w : World) (hs : SliceAt w 1 v b.length (u8s b)) : Calls Try.prog 5 #[v] w fun e w' => e = .returned (.bool true) ∧ Below w.heap.size w w' := by
  by_cases h1 : b.length ≤ 100
  · match b, hs, h1 with
    | [], hs, _ => exact walk_short v [] w hs (by simp)
    | [x], hs, _ => exact walk_short v [x] w hs (by simp)
    | [x, y], hs, _ => exact walk_short v [x, y] w hs (by simp)
    | x :: y :: z :: p, hs, h => exact walk_long v x y z p _ w rfl hs h
  · have q1 : decide ((100 : Int) < (b.length : Int)) = true := decide_eq_true (by omega)
    obtain ⟨A, c, rfl, _⟩ := hs.form
    go_enter Try.func5, Try.ntmps5
    go_wp2_with fail
    refine (wakes_c _).mono ?_
    rintro e w9 ⟨rfl, b9⟩
    go_wp2
    go_ret
    exact ⟨rfl, b9⟩

theorem own : ownKnob Try.prog.godebug = none := by kernel_rfl
theorem laidOut : laidOutB Try.prog = true := by kernel_rfl
noncomputable def wit (os : Os) : World := World.holding Try.prog os ⟨#[], #[], []⟩
set_option maxRecDepth 100000 in
theorem lifted (os : Os) (started : os.Started) (H : Type) (enc : TypeId × Value → H) (F : Stop.Interp) :
    ReturnsInHanded {} Try.checked os 5 .any ((OpenSpec.ofChange Rows.frameOnlySpec).preRow enc Try.prog Try.f5 Rows.frameOnlyRow.domain false Rows.frameOnlyRow.laid) (((OpenSpec.ofChange Rows.frameOnlySpec).at F).post enc Try.prog Try.f5 false true false false) := by
  obtain ⟨x, hx⟩ : ∃ x, DataW.whole enc Try.prog ((wit os).forCall (fun _ _ => 0) ⟨#[], #[.slice none 0 0], []⟩).memory Try.f5.params.toList Rows.frameOnlySpec.vars false (#[.slice none 0 0] : Array Value).toList 8 = some x := Option.isSome_iff_exists.1 (by kernel_rfl)
  refine Fr.lift (C := Try.checked) (s := OpenSpec.ofChange Rows.frameOnlySpec) own started (by kernel_rfl) Try.func5
    (witness_row_at (enc := enc) (C := Try.checked) false (wit os) #[.slice none 0 0] rfl (by kernel_rfl) (by kernel_rfl) (by kernel_rfl)
      (OpenSpec.preRow_of_cond 8 hx rfl (fun k hk => by cases hk) (by kernel_rfl) (laidMet_of_run' 8 (by kernel_rfl) (by kernel_rfl))))
    laidOut (by kernel_rfl) rfl Try.underlying4 rfl rfl ?_ ?_
  · intro ds hds
    match ds, hds with
    | [_], _ => rfl
  · intro W base args ds before hval hA hlt _ hz hL
    rw [Try.params5] at hA hval
    obtain ⟨v0, vs0, d0, ds0, p0, q0, hargs, rfl, rfl, h0, r0⟩ := trodAll_cons hA
    obtain ⟨rfl, rfl, rfl⟩ := trodAll_nil r0
    obtain rfl : args = #[v0] := by cases args; simp_all
    obtain ⟨B, hB⟩ := Bv.open_bytes_arg Try.underlying22 Try.underlying5 (by kernel_rfl) (hval 0 _ v0 rfl rfl) h0
    exact walk v0 B W hB

theorem said : Rows.FrameOnlySaid :=
  OpenClaim.holds_of_cond 5 Try.f5 rfl rfl rfl rfl rfl rfl rfl ⟨rfl, rfl, rfl, rfl, rfl⟩ rfl rfl rfl rfl rfl (by kernel_rfl) Try.func5 (by kernel_rfl)
    (of_decide_eq_true (by kernel_rfl)) (by unfold Func.isWrapper; first | (rw [if_pos (by decide +kernel)]; kernel_rfl) | (rw [if_neg (by decide +kernel)]; exact ⟨rfl, rfl⟩))
    (fun os started H enc _ F => by rw [OpenClaim.pre_eq_preRow]; exact lifted os started H enc F)
#print axioms said
end Go.Proofs.Ytbjhmaefjgihlaa.frameOnly
