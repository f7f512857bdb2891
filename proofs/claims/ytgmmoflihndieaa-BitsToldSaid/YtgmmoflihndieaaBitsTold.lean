/- BitsTold: for every argument the statement's Go text returns true and turns nothing that was there. It is proved at every argument, without a condition beyond the row. -/
import Derived.Test.YtgmmoflihndieaaBitsW
import Derived.Test.YtgmmoflihndieaaBitsArg
import Derived.Test.YtgmmoflihndieaaFrame
import Derived.Deep.RegionHeld3
import Derived.Deep.DrawnRows
namespace Go.Proofs.Ytgmmoflihndieaa.bitsTold
open Go.ChangeShapes Go.WideShapes Go.ChangeAt Go.RowKit Rf
attribute [local go_sem ↓] run_max2 run_min2
open Mem Bv Bits Str
theorem Take_any (v : Value) (B : List (BitVec 8)) (N at_ wd : Int) (w : World) (hs : SliceAt w 1 v B.length (u8s B)) (hr : right B N = true) (hN : N ≤ 1000000) :
    Calls Try.prog 16 #[bv v N, .int .i64 at_, .int .i64 wd] w fun e w' => Below w.heap.size w w' ∧ ∃ m er : Int, e = .returned (.tuple #[.int .i64 m, .int .i64 er]) := by
  obtain ⟨l, rfl, hH⟩ := (right_iff B N).1 hr
  by_cases h1 : wd < 0 ∨ 32 < wd ∨ at_ < 0
  · refine (Take_bad v B _ at_ wd w hs (by omega) (by omega) (.inr h1)).mono ?_
    rintro e w' ⟨b, rfl⟩; exact ⟨b, _, _, rfl⟩
  · by_cases h2 : at_ + wd ≤ l.length
    · refine (Take_g v B l at_.toNat wd.toNat _ at_ wd _ w rfl (by omega) (by omega) rfl hs hH (by omega) (by omega) (by omega)).mono ?_
      rintro e w' ⟨b, rfl⟩; exact ⟨b, _, _, rfl⟩
    · refine (Take_short v B _ at_ wd w hs (by omega) (by omega) hr (by omega) (by omega) (by omega) (by omega)).mono ?_
      rintro e w' ⟨b, rfl⟩; exact ⟨b, _, _, rfl⟩
theorem shl_add {n p q o : Nat} {z : Nat} (h : n = p * 2 ^ o + q) (hz : z = o) (hp : p < 65536) (hq : q < 65536) (ho : o ≤ 16) : ((n : Int) != wrap64 (wrap64 ((p : Int) * 2 ^ z) + (q : Int))) = false := by
  subst hz
  have h1 : 2 ^ z ≤ 2 ^ 16 := Nat.pow_le_pow_right (by omega) ho
  have h2 : p * 2 ^ z ≤ 65536 * 2 ^ 16 := Nat.mul_le_mul (by omega) h1
  have h3 : ((p : Int) * 2 ^ z) = ((p * 2 ^ z : Nat) : Int) := by push_cast; rfl
  rw [h3]
  generalize p * 2 ^ z = t at *
  have h4 : wrap64 (t : Int) = (t : Int) := by unfold wrap64; omega
  rw [h4]
  have h5 : wrap64 ((t : Int) + (q : Int)) = (t : Int) + (q : Int) := by unfold wrap64; omega
  rw [h5, h]; simp
theorem num_parts (l : List Bool) (a h o : Nat) (hl : a + h + o ≤ l.length) : num ((l.drop a).take (h + o)) = num ((l.drop a).take h) * 2 ^ o + num ((l.drop (a + h)).take o) := by
  rw [List.take_add, num_append, List.drop_drop]
  congr 3
  rw [List.length_take, List.length_drop]; omega
theorem num_one {l : List Bool} {k : Nat} {b : Bool} (h : l[k]? = some b) : num ((l.drop k).take 1) = b.toNat := by
  have : (l.drop k).take 1 = [b] := by
    rw [List.take_one, List.head?_drop, h]; rfl
  rw [this]; cases b <;> rfl
/-- as far as k they tell the same -/
def alike (l m : List Bool) (k : Nat) : Bool := decide (l.length = m.length) && decide (l.take k = m.take k)
theorem alike_next {l m : List Bool} {k : Nat} {a b : Bool} (h : alike l m k = true) (ha : l[k]? = some a) (hb : m[k]? = some b) : alike l m (k + 1) = (a == b) := by
  unfold alike at h ⊢
  rw [Bool.and_eq_true, decide_eq_true_eq, decide_eq_true_eq] at h
  rw [decide_eq_true h.1, Bool.true_and, List.take_add_one, List.take_add_one, ha, hb, h.2, Bool.eq_iff_iff, decide_eq_true_eq, beq_iff_eq]
  simp
theorem alike_end {B C : List (BitVec 8)} {l m : List Bool} {k : Nat} {s : Bool} (hl : Holds B l) (hm : Holds C m) (h : s = alike l m k) (hk : s = false ∨ k = l.length) : s = sameV B C l.length m.length := by
  by_cases e : l = m
  · subst e
    have : alike l l k = true := by unfold alike; simp
    rw [h, this]; exact same_yes hl hm rfl
  · have hs : s = false := by
      rcases hk with hk | rfl
      · exact hk
      · rw [h]
        unfold alike
        by_cases e2 : l.length = m.length
        · have : ¬ (l.take l.length = m.take l.length) := by rw [List.take_of_length_le (Nat.le_refl _), e2, List.take_of_length_le (Nat.le_refl _)]; exact e
          rw [decide_eq_false this, Bool.and_false]
        · rw [decide_eq_false e2, Bool.false_and]
    rw [hs]
    unfold sameV
    by_cases e2 : ((l.length : Int) == (m.length : Int)) = true
    · rw [e2, Bool.true_and]
      have e3 : l.length = m.length := by have := beq_iff_eq.1 e2; omega
      exact (decide_eq_false (fun e4 : B = C => e (holds_inj hl (e4 ▸ hm) e3))).symm
    · rw [eq_false_of_ne_true e2, Bool.false_and]
set_option maxHeartbeats 2000000 in
set_option maxRecDepth 100000 in
theorem walk_good (v u : Value) (B C : List (BitVec 8)) (l m : List Bool) (N M at_ hi lo : Int) (w : World) (hs : SliceAt w 1 v B.length (u8s B)) (hu : SliceAt w 1 u C.length (u8s C)) (hN : N = l.length) (hM : M = m.length)
    (h1 : B.length ≤ 100) (h2 : C.length ≤ 100) (hH : Holds B l) (hG : Holds C m) : Calls Try.prog 5 #[bv v N, bv u M, .int .i64 at_, .int .i64 hi, .int .i64 lo] w fun e w' => e = .returned (.bool true) ∧ Below w.heap.size w w' := by
  have b0 := below_new w (.cells #[v, .int .i64 N] 24)
  have b1 := below_new (w.alloc (.cells #[v, .int .i64 N] 24)) (.cells #[u, .int .i64 M] 24)
  have V0 := (Var.new (N := N) hs).later b1
  have V1 := Var.new (N := M) (hu.later b0)
  rw [World.size_alloc] at V1
  have BB := below_step b0 b1
  have q1 : decide ((100 : Int) < (B.length : Int)) = false := decide_eq_false (by omega)
  have q2 : decide ((100 : Int) < (C.length : Int)) = false := decide_eq_false (by omega)
  have hll : l.length ≤ 800 := by have := hH.1; omega
  have hml : m.length ≤ 800 := by have := hG.1; omega
  have hN3 : N ≤ 1000 := by omega
  have hN4 : 0 ≤ N := by omega
  have hM3 : M ≤ 1000 := by omega
  have hM4 : 0 ≤ M := by omega
  have HN := Lib.hid hN
  have HM := Lib.hid hM
  have HRx := Lib.hid (right_yes hH hN)
  have HRy := Lib.hid (right_yes hG hM)
  obtain ⟨A, c, rfl, _⟩ := hs.form
  obtain ⟨A', c', rfl, _⟩ := hu.form
  have x0 := V0.c0
  have x1 := V0.c1
  clear hs hu hN hM b0 b1
  go_enter Try.func5, Try.ntmps5
  go_wp2_with fail
  generalize hW0 : (w.alloc (.cells #[.slice A B.length c, .int .i64 N] 24)).alloc (.cells #[.slice A' C.length c', .int .i64 M] 24) = W0 at *
  clear hW0
  refine (refRight_g _ B N true _ HRx.out V0.sl (by omega) (by omega)).mono ?_
  rintro e w1 ⟨rfl, b1⟩
  replace V0 := V0.later b1
  replace V1 := V1.later b1
  replace BB := below_step BB b1
  clear x0 x1 b1
  have x0 := V1.c0
  have x1 := V1.c1
  go_wp2_with fail
  refine (refRight_g _ C M true _ HRy.out V1.sl (by omega) (by omega)).mono ?_
  rintro e w2 ⟨rfl, b2⟩
  replace V0 := V0.later b2
  replace V1 := V1.later b2
  replace BB := below_step BB b2
  clear x0 x1 b2
  have x0 := V0.c0
  have x1 := V0.c1
  have y0 := V1.c0
  have y1 := V1.c1
  have hs0 : ((N == M) : Bool) = alike l m 0 := by rw [HN.out, HM.out, Bool.eq_iff_iff]; unfold alike; simp; omega
  have HS0 := Lib.hid hs0
  clear hs0
  go_wp2_with fail
  generalize hs1 : (N == M) = s0 at *
  clear hs1
  go_loopw [11, 12] (fun sv i wr => ∃ (k : Nat) (s : Bool), (k : Int) ≤ N ∧ i = .int .i64 k ∧ sv = .bool s ∧ s = alike l m k ∧ Below w2.heap.size w2 wr) (fun _ i _ => (N - intOf i).toNat)
  case atStart => exact ⟨0, s0, by omega, rfl, rfl, HS0.out, Below.refl _ _⟩
  case round =>
    obtain ⟨k, s, hk, rfl, rfl, hsk, hb⟩ := hrel
    clear x0 x1 y0 y1
    have X := V0.later hb
    have Y := V1.later hb
    have x0 := X.c0
    have x1 := X.c1
    have y0 := Y.c0
    have y1 := Y.c1
    by_cases hlt : (k : Int) < N ∧ s = true
    · obtain ⟨hlt, rfl⟩ := hlt
      have hln := HN.out
      have hmn := HM.out
      have hal := hsk
      unfold alike at hal
      rw [eq_comm, Bool.and_eq_true, decide_eq_true_eq, decide_eq_true_eq] at hal
      have hk1 : k < l.length := by omega
      have hk2 : k < m.length := by omega
      have ga : l[k]? = some l[k] := List.getElem?_eq_getElem hk1
      have gb : m[k]? = some m[k] := List.getElem?_eq_getElem hk2
      have hnx := alike_next hsk.symm ga gb
      have HX := Lib.hid hnx
      have hra := num_one ga
      have hrb := num_one gb
      generalize l[k] = a at *
      generalize m[k] = b at *
      have HA := Lib.hid hra
      have HB := Lib.hid hrb
      clear hsk hnx hra hrb ga gb hal hln hmn
      have i1 : (a.toNat : Int) ≤ 1 := by cases a <;> decide
      have i2 : (0 : Int) ≤ (a.toNat : Int) := by omega
      have i3 : ((a.toNat : Int) == (b.toNat : Int)) = (a == b) := by cases a <;> cases b <;> rfl
      have i4 : decide ((1 : Int) < (a.toNat : Int)) = false := decide_eq_false (by omega)
      go_wp2_with fail
      refine (Take_g _ B l k 1 N k 1 (a.toNat : Int) _ HN.out rfl rfl (by rw [HA.out]) X.sl hH (by omega) (by decide) (by omega)).mono ?_
      rintro e w3 ⟨b3, rfl⟩
      replace X := X.later b3
      replace Y := Y.later b3
      clear x0 x1 y0 y1
      have y0 := Y.c0
      have y1 := Y.c1
      go_wp2_with fail
      refine (Take_g _ C m k 1 M k 1 (b.toNat : Int) _ HM.out rfl rfl (by rw [HB.out]) Y.sl hG (by omega) (by decide) (by omega)).mono ?_
      rintro e w4 ⟨b4, rfl⟩
      replace hb := hb.trans ((below_step b3 b4).mono hb.size)
      clear y0 y1 b3 b4
      go_wp2
      go_roundw
      case rel => exact ⟨k + 1, a == b, by omega, by go_num, rfl, HX.out.symm, hb⟩
      case measure => simp [intOf]; omega
    · have hfin : s = sameV B C N M := by
        rw [HN.out, HM.out]
        refine alike_end hH hG hsk ?_
        rcases s with _ | _
        · exact .inl rfl
        · right
          have h1 : ¬ (k : Int) < N := fun h => hlt ⟨h, rfl⟩
          have := HN.out
          omega
      have HF := Lib.hid hfin
      replace BB := below_step BB hb
      have hcase : (decide ((k : Int) < N) = false) ∨ (decide ((k : Int) < N) = true ∧ s = false) := by
        by_cases h : (k : Int) < N
        · right
          refine ⟨decide_eq_true h, ?_⟩
          rcases s with _ | _
          · rfl
          · exact absurd ⟨h, rfl⟩ hlt
        · exact .inl (decide_eq_false h)
      clear hsk hfin hlt hb V0 V1
      rcases hcase with hex | ⟨hex, rfl⟩
      all_goals
        go_wp2_with fail
        refine (Same_g _ _ B C N M _ _ HF.out X.sl Y.sl).mono ?_
        rintro e w5 ⟨rfl, b5⟩
        replace X := X.later b5
        replace BB := below_step BB b5
        clear x0 x1 y0 y1 b5 Y hex
        have x0 := X.c0
        have x1 := X.c1
        obtain ⟨mn, hmn⟩ : ∃ x, min hi lo = x := ⟨_, rfl⟩
        obtain ⟨mx, hmx⟩ : ∃ x, max hi lo = x := ⟨_, rfl⟩
        by_cases hbad : at_ < 0 ∨ 1000 < at_ ∨ mn < 0 ∨ 16 < mx
        · have hcase : (decide (at_ < 0) = true) ∨ (decide (at_ < 0) = false ∧ decide (1000 < at_) = true) ∨ (decide (at_ < 0) = false ∧ decide (1000 < at_) = false ∧ decide (mn < 0) = true) ∨ (decide (at_ < 0) = false ∧ decide (1000 < at_) = false ∧ decide (mn < 0) = false ∧ decide (16 < mx) = true) := by
            by_cases r1 : at_ < 0
            · exact .inl (decide_eq_true r1)
            by_cases r2 : 1000 < at_
            · exact .inr (.inl ⟨decide_eq_false r1, decide_eq_true r2⟩)
            by_cases r3 : mn < 0
            · exact .inr (.inr (.inl ⟨decide_eq_false r1, decide_eq_false r2, decide_eq_true r3⟩))
            · exact .inr (.inr (.inr ⟨decide_eq_false r1, decide_eq_false r2, decide_eq_false r3, decide_eq_true (by omega)⟩))
          clear hbad
          rcases hcase with r1 | ⟨r1, r2⟩ | ⟨r1, r2, r3⟩ | ⟨r1, r2, r3, r4⟩
          all_goals
            go_wp2_with fail
            refine (wakes_c _).mono ?_
            rintro e w9 ⟨rfl, b9⟩
            go_wp2
            go_ret
            exact ⟨rfl, below_step BB b9⟩
        · have r1 : decide (at_ < 0) = false := decide_eq_false (by omega)
          have r2 : decide (1000 < at_) = false := decide_eq_false (by omega)
          have r3 : decide (mn < 0) = false := decide_eq_false (by omega)
          have r4 : decide (16 < mx) = false := decide_eq_false (by omega)
          have u1 : 0 ≤ at_ ∧ at_ ≤ 1000 := by omega
          have u2 : 0 ≤ hi ∧ hi ≤ 16 := by omega
          have u3 : 0 ≤ lo ∧ lo ≤ 16 := by omega
          obtain ⟨u1a, u1b⟩ := u1
          obtain ⟨u2a, u2b⟩ := u2
          obtain ⟨u3a, u3b⟩ := u3
          clear hbad
          by_cases hfit : at_ + hi + lo ≤ N
          · obtain ⟨a, ha⟩ : ∃ a : Nat, at_ = a := ⟨at_.toNat, by omega⟩
            obtain ⟨h, hh⟩ : ∃ a : Nat, hi = a := ⟨hi.toNat, by omega⟩
            obtain ⟨o, ho⟩ : ∃ a : Nat, lo = a := ⟨lo.toNat, by omega⟩
            have hln := HN.out
            have f1 : a + h + o ≤ l.length := by omega
            have f2 : h ≤ 16 := by omega
            have f3 : o ≤ 16 := by omega
            have hnum := num_parts l a h o f1
            have hp := num_lt ((l.drop a).take h)
            have hq := num_lt ((l.drop (a + h)).take o)
            have hpl : ((l.drop a).take h).length ≤ 16 := by rw [List.length_take]; omega
            have hql : ((l.drop (a + h)).take o).length ≤ 16 := by rw [List.length_take]; omega
            have hp2 := Nat.lt_of_lt_of_le hp (Nat.pow_le_pow_right (n := 2) (by omega) hpl)
            have hq2 := Nat.lt_of_lt_of_le hq (Nat.pow_le_pow_right (n := 2) (by omega) hql)
            obtain ⟨n, hn⟩ : ∃ n, num ((l.drop a).take (h + o)) = n := ⟨_, rfl⟩
            obtain ⟨p, hp'⟩ : ∃ n, num ((l.drop a).take h) = n := ⟨_, rfl⟩
            obtain ⟨q, hq'⟩ : ∃ n, num ((l.drop (a + h)).take o) = n := ⟨_, rfl⟩
            rw [hn, hp', hq'] at hnum
            rw [hp'] at hp2
            rw [hq'] at hq2
            have hp3 : p < 65536 := hp2
            have hq3 : q < 65536 := hq2
            have H1 := Lib.hid ha
            have H2 := Lib.hid hh
            have H3 := Lib.hid ho
            have H4 := Lib.hid hn
            have H5 := Lib.hid hp'
            have H6 := Lib.hid hq'
            have H7 := Lib.hid hnum
            clear ha hh ho hn hp' hq' hnum hp hq hpl hql hp2 hq2 hln
            have c7 : decide (at_ + hi + lo ≤ N) = true := decide_eq_true hfit
            have c8 : ((n : Int) != wrap64 (wrap64 ((p : Int) * 2 ^ lo.toNat) + (q : Int))) = false := shl_add H7.out (by rw [H3.out]; rfl) hp3 hq3 f3
            go_wp2_with fail
            refine (Take_g _ B l a (h + o) N at_ (hi + lo) (n : Int) _ HN.out H1.out (by rw [H2.out, H3.out]; omega) (by rw [H4.out]) X.sl hH (by omega) (by omega) (by omega)).mono ?_
            rintro e w6 ⟨b6, rfl⟩
            replace X := X.later b6
            replace BB := below_step BB b6
            clear x0 x1 b6
            have x0 := X.c0
            have x1 := X.c1
            go_wp2_with fail
            refine (Take_g _ B l a h N at_ hi (p : Int) _ HN.out H1.out H2.out (by rw [H5.out]) X.sl hH (by omega) (by omega) (by omega)).mono ?_
            rintro e w7 ⟨b7, rfl⟩
            replace X := X.later b7
            replace BB := below_step BB b7
            clear x0 x1 b7
            have x0 := X.c0
            have x1 := X.c1
            go_wp2_with fail
            refine (Take_g _ B l (a + h) o N (at_ + hi) lo (q : Int) _ HN.out (by rw [H1.out, H2.out]; omega) H3.out (by rw [H6.out]) X.sl hH (by omega) (by omega) (by omega)).mono ?_
            rintro e w8 ⟨b8, rfl⟩
            replace X := X.later b8
            replace BB := below_step BB b8
            clear x0 x1 b8
            have x0 := X.c0
            have x1 := X.c1
            go_wp2_with fail
            refine (wakes_c _).mono ?_
            rintro e w9 ⟨rfl, b9⟩
            go_wp2
            go_ret
            exact ⟨rfl, below_step BB b9⟩
          · have c7 : decide (at_ + hi + lo ≤ N) = false := decide_eq_false hfit
            go_wp2_with fail
            refine (Take_short _ B N at_ (hi + lo) _ X.sl (by omega) (by omega) HRx.out.symm (by omega) (by omega) (by omega) (by omega)).mono ?_
            rintro e w6 ⟨b6, rfl⟩
            replace X := X.later b6
            replace BB := below_step BB b6
            clear x0 x1 b6
            have x0 := X.c0
            have x1 := X.c1
            go_wp2_with fail
            refine (Take_any _ B N at_ hi _ X.sl HRx.out.symm (by omega)).mono ?_
            rintro e w7 ⟨b7, m1, e1, rfl⟩
            replace X := X.later b7
            replace BB := below_step BB b7
            clear x0 x1 b7
            have x0 := X.c0
            have x1 := X.c1
            go_wp2_with fail
            refine (Take_any _ B N (at_ + hi) lo _ X.sl HRx.out.symm (by omega)).mono ?_
            rintro e w8 ⟨b8, m2, e2, rfl⟩
            replace X := X.later b8
            replace BB := below_step BB b8
            clear x0 x1 b8
            have x0 := X.c0
            have x1 := X.c1
            go_wp2_with fail
            refine (wakes_c _).mono ?_
            rintro e w9 ⟨rfl, b9⟩
            go_wp2
            go_ret
            exact ⟨rfl, below_step BB b9⟩
set_option maxHeartbeats 1000000 in
set_option maxRecDepth 100000 in
theorem walk (v u : Value) (B C : List (BitVec 8)) (N M at_ hi lo : Int) (w : World) (hs : SliceAt w 1 v B.length (u8s B)) (hu : SliceAt w 1 u C.length (u8s C)) (hN1 : -9223372036854775808 ≤ N) (hN2 : N ≤ 9223372036854775807) (hM1 : -9223372036854775808 ≤ M) (hM2 : M ≤ 9223372036854775807) :
    Calls Try.prog 5 #[bv v N, bv u M, .int .i64 at_, .int .i64 hi, .int .i64 lo] w fun e w' => e = .returned (.bool true) ∧ Below w.heap.size w w' := by
  have b0 := below_new w (.cells #[v, .int .i64 N] 24)
  have b1 := below_new (w.alloc (.cells #[v, .int .i64 N] 24)) (.cells #[u, .int .i64 M] 24)
  have V0 := (Var.new (N := N) hs).later b1
  have V1 := Var.new (N := M) (hu.later b0)
  rw [World.size_alloc] at V1
  have BB := below_step b0 b1
  by_cases h1 : B.length ≤ 100
  · by_cases h2 : C.length ≤ 100
    · rcases hr : right B N with _ | _
      · have q1 : decide ((100 : Int) < (B.length : Int)) = false := decide_eq_false (by omega)
        have q2 : decide ((100 : Int) < (C.length : Int)) = false := decide_eq_false (by omega)
        have HR := Lib.hid hr
        obtain ⟨A, c, rfl, _⟩ := hs.form
        obtain ⟨A', c', rfl, _⟩ := hu.form
        have x0 := V0.c0
        have x1 := V0.c1
        clear hs hu hr b0 b1
        go_enter Try.func5, Try.ntmps5
        go_wp2_with fail
        refine (refRight_g _ B N false _ HR.out.symm V0.sl hN1 hN2).mono ?_
        rintro e w1 ⟨rfl, b1⟩
        replace BB := below_step BB b1
        go_wp2_with fail
        refine (wakes_c _).mono ?_
        rintro e w9 ⟨rfl, b9⟩
        go_wp2
        go_ret
        exact ⟨rfl, below_step BB b9⟩
      · rcases hr2 : right C M with _ | _
        · have q1 : decide ((100 : Int) < (B.length : Int)) = false := decide_eq_false (by omega)
          have q2 : decide ((100 : Int) < (C.length : Int)) = false := decide_eq_false (by omega)
          have HR := Lib.hid hr
          have HR2 := Lib.hid hr2
          obtain ⟨A, c, rfl, _⟩ := hs.form
          obtain ⟨A', c', rfl, _⟩ := hu.form
          have x0 := V0.c0
          have x1 := V0.c1
          clear hs hu hr hr2 b0 b1
          go_enter Try.func5, Try.ntmps5
          go_wp2_with fail
          refine (refRight_g _ B N true _ HR.out.symm V0.sl hN1 hN2).mono ?_
          rintro e w1 ⟨rfl, b1⟩
          replace V1 := V1.later b1
          replace BB := below_step BB b1
          clear x0 x1
          have x0 := V1.c0
          have x1 := V1.c1
          go_wp2_with fail
          refine (refRight_g _ C M false _ HR2.out.symm V1.sl hM1 hM2).mono ?_
          rintro e w2 ⟨rfl, b2⟩
          replace BB := below_step BB b2
          go_wp2_with fail
          refine (wakes_c _).mono ?_
          rintro e w9 ⟨rfl, b9⟩
          go_wp2
          go_ret
          exact ⟨rfl, below_step BB b9⟩
        · obtain ⟨l, hN, hH⟩ := (right_iff B N).1 hr
          obtain ⟨m, hM, hG⟩ := (right_iff C M).1 hr2
          exact walk_good v u B C l m N M at_ hi lo w hs hu hN hM h1 h2 hH hG
    · have q1 : decide ((100 : Int) < (B.length : Int)) = false := decide_eq_false (by omega)
      have q2 : decide ((100 : Int) < (C.length : Int)) = true := decide_eq_true (by omega)
      obtain ⟨A, c, rfl, _⟩ := hs.form
      obtain ⟨A', c', rfl, _⟩ := hu.form
      go_enter Try.func5, Try.ntmps5
      go_wp2_with fail
      refine (wakes_c _).mono ?_
      rintro e w9 ⟨rfl, b9⟩
      go_wp2
      go_ret
      exact ⟨rfl, below_step BB b9⟩
  · have q1 : decide ((100 : Int) < (B.length : Int)) = true := decide_eq_true (by omega)
    obtain ⟨A, c, rfl, _⟩ := hs.form
    obtain ⟨A', c', rfl, _⟩ := hu.form
    go_enter Try.func5, Try.ntmps5
    go_wp2_with fail
    refine (wakes_c _).mono ?_
    rintro e w9 ⟨rfl, b9⟩
    go_wp2
    go_ret
    exact ⟨rfl, below_step BB b9⟩

theorem own : ownKnob Try.prog.godebug = none := by kernel_rfl
theorem laidOut : laidOutB Try.prog = true := by kernel_rfl
noncomputable def wit (os : Os) : World := World.holding Try.prog os ⟨#[], #[], []⟩
set_option maxRecDepth 100000 in
theorem lifted (os : Os) (started : os.Started) (H : Type) (enc : TypeId × Value → H) (F : Stop.Interp) :
    ReturnsInHanded {} Try.checked os 5 .any ((OpenSpec.ofChange Rows.bitsToldSpec).preRow enc Try.prog Try.f5 Rows.bitsToldRow.domain false Rows.bitsToldRow.laid) (((OpenSpec.ofChange Rows.bitsToldSpec).at F).post enc Try.prog Try.f5 false true false false) := by
  obtain ⟨x, hx⟩ : ∃ x, DataW.whole enc Try.prog ((wit os).forCall (fun _ _ => 0) ⟨#[], #[.agg #[.slice none 0 0, .int .i64 0], .agg #[.slice none 0 0, .int .i64 0], .int .i64 0, .int .i64 0, .int .i64 0], []⟩).memory Try.f5.params.toList Rows.bitsToldSpec.vars false (#[.agg #[.slice none 0 0, .int .i64 0], .agg #[.slice none 0 0, .int .i64 0], .int .i64 0, .int .i64 0, .int .i64 0] : Array Value).toList 8 = some x := Option.isSome_iff_exists.1 (by kernel_rfl)
  refine Fr.lift (C := Try.checked) (s := OpenSpec.ofChange Rows.bitsToldSpec) own started (by kernel_rfl) Try.func5
    (witness_row_at (enc := enc) (C := Try.checked) false (wit os) #[.agg #[.slice none 0 0, .int .i64 0], .agg #[.slice none 0 0, .int .i64 0], .int .i64 0, .int .i64 0, .int .i64 0] rfl (by kernel_rfl) (by kernel_rfl) (by kernel_rfl)
      (OpenSpec.preRow_of_cond 8 hx rfl (fun k hk => by cases hk) (by kernel_rfl) (laidMet_of_run' 8 (by kernel_rfl) (by kernel_rfl))))
    laidOut (by kernel_rfl) rfl Try.underlying4 rfl rfl ?_ ?_
  · intro ds hds
    match ds, hds with
    | [_, _, _, _, _], _ => rfl
  · intro W base args ds before hval hA hlt _ hz hL
    rw [Try.params5] at hA hval
    obtain ⟨v0, vs0, d0, ds0, p0, q0, hargs, rfl, rfl, h0, r0⟩ := trodAll_cons hA
    obtain ⟨v1, vs1, d1, ds1, p1, q1, rfl, rfl, rfl, h1, r1⟩ := trodAll_cons r0
    obtain ⟨v2, vs2, d2, ds2, p2, q2, rfl, rfl, rfl, h2, r2⟩ := trodAll_cons r1
    obtain ⟨v3, vs3, d3, ds3, p3, q3, rfl, rfl, rfl, h3, r3⟩ := trodAll_cons r2
    obtain ⟨v4, vs4, d4, ds4, p4, q4, rfl, rfl, rfl, h4, r4⟩ := trodAll_cons r3
    obtain ⟨rfl, rfl, rfl⟩ := trodAll_nil r4
    obtain rfl : args = #[v0, v1, v2, v3, v4] := by cases args; simp_all
    obtain ⟨u, B, N, rfl, hB, hN1, hN2⟩ := open_bits (hval 0 _ v0 rfl rfl) h0
    obtain ⟨u', C, M, rfl, hC, hM1, hM2⟩ := open_bits (hval 1 _ v1 rfl rfl) h1
    obtain ⟨a2, rfl, rfl, rfl, w2⟩ := open_int Try.underlying3 (hval 2 _ v2 rfl rfl) h2
    obtain ⟨a3, rfl, rfl, rfl, w3⟩ := open_int Try.underlying3 (hval 3 _ v3 rfl rfl) h3
    obtain ⟨a4, rfl, rfl, rfl, w4⟩ := open_int Try.underlying3 (hval 4 _ v4 rfl rfl) h4
    exact walk u u' B C N M a2 a3 a4 W hB hC hN1 hN2 hM1 hM2

theorem said : Rows.BitsToldSaid :=
  OpenClaim.holds_of_cond 5 Try.f5 rfl rfl rfl rfl rfl rfl rfl ⟨rfl, rfl, rfl, rfl, rfl⟩ rfl rfl rfl rfl rfl (by kernel_rfl) Try.func5 (by kernel_rfl)
    (of_decide_eq_true (by kernel_rfl)) (by unfold Func.isWrapper; first | (rw [if_pos (by decide +kernel)]; kernel_rfl) | (rw [if_neg (by decide +kernel)]; exact ⟨rfl, rfl⟩))
    (fun os started H enc _ F => by rw [OpenClaim.pre_eq_preRow]; exact lifted os started H enc F)
#print axioms said
end Go.Proofs.Ytgmmoflihndieaa.bitsTold
