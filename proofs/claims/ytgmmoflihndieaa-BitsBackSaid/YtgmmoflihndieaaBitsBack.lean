/- BitsBack: for every argument the statement's Go text returns true and turns nothing that was there. It is proved at every argument, without a condition beyond the row. -/
import Derived.Test.YtgmmoflihndieaaBitsW
import Derived.Test.YtgmmoflihndieaaBitsArg
import Derived.Test.YtgmmoflihndieaaFrame
import Derived.Deep.RegionHeld3
import Derived.Deep.DrawnRows
namespace Go.Proofs.Ytgmmoflihndieaa.bitsBack
open Go.ChangeShapes Go.WideShapes Go.ChangeAt Go.RowKit Rf
attribute [local go_sem ↓] run_max2 run_min2
open Mem Bv Bits Str
/-- what is behind numbers that are put: those that may be -/
def puts (l0 : List Bool) (xs : List (Int × Int)) : List Bool := xs.foldl (fun acc x => if fits x.1 x.2 then acc ++ numBits x.1.toNat x.2.toNat else acc) l0
theorem puts_snoc (l0 : List Bool) (xs : List (Int × Int)) (x : Int × Int) : puts l0 (xs ++ [x]) = if fits x.1 x.2 then puts l0 xs ++ numBits x.1.toNat x.2.toNat else puts l0 xs := by
  unfold puts; rw [List.foldl_append]; rfl
theorem puts_cons (l0 : List Bool) (x : Int × Int) (xs : List (Int × Int)) : puts l0 (x :: xs) = puts (if fits x.1 x.2 then l0 ++ numBits x.1.toNat x.2.toNat else l0) xs := rfl
theorem puts_prefix (xs : List (Int × Int)) : ∀ l0 : List Bool, ∃ r, puts l0 xs = l0 ++ r := by
  induction xs with
  | nil => intro l0; exact ⟨[], by simp [puts]⟩
  | cons x xs ih =>
    intro l0
    rw [puts_cons]
    split
    · obtain ⟨r, hr⟩ := ih (l0 ++ numBits x.1.toNat x.2.toNat)
      exact ⟨numBits x.1.toNat x.2.toNat ++ r, by rw [hr, List.append_assoc]⟩
    · exact ih l0
theorem puts_append (l0 : List Bool) (xs ys : List (Int × Int)) : puts l0 (xs ++ ys) = puts (puts l0 xs) ys := by
  unfold puts; rw [List.foldl_append]
theorem fits_nat {n wd : Int} (h : fits n wd = true) : 0 ≤ wd ∧ wd ≤ 32 ∧ 0 ≤ n ∧ n.toNat < 2 ^ wd.toNat := by
  unfold fits at h
  simp only [Bool.and_eq_true, decide_eq_true_eq] at h
  obtain ⟨⟨⟨f1, f2⟩, f3⟩, f4⟩ := h
  refine ⟨f1, f2, f3, ?_⟩
  have : ((n.toNat : Nat) : Int) < ((2 ^ wd.toNat : Nat) : Int) := by rw [show ((n.toNat : Nat) : Int) = n by omega]; exact_mod_cast f4
  exact_mod_cast this
theorem puts_len (xs : List (Int × Int)) : ∀ l0 : List Bool, (puts l0 xs).length ≤ l0.length + 32 * xs.length := by
  induction xs with
  | nil => intro l0; simp [puts]
  | cons x xs ih =>
    intro l0
    rw [puts_cons, List.length_cons]
    split
    · rename_i hf
      obtain ⟨h1, h2, h3, h4⟩ := fits_nat hf
      have := ih (l0 ++ numBits x.1.toNat x.2.toNat)
      rw [List.length_append, numBits_length] at this; omega
    · have := ih l0; omega
/-- a number that was put is taken where it was put -/
theorem puts_take (l0 : List Bool) (xs : List (Int × Int)) (k : Nat) (x : Int × Int) (hx : xs[k]? = some x) (hf : fits x.1 x.2 = true) :
    num (((puts l0 xs).drop (puts l0 (xs.take k)).length).take x.2.toNat) = x.1.toNat ∧ (puts l0 (xs.take k)).length + x.2.toNat ≤ (puts l0 xs).length := by
  have hk := (List.getElem?_eq_some_iff.1 hx).1
  obtain ⟨h1, h2, h3, h4⟩ := fits_nat hf
  have e : xs = xs.take k ++ ([x] ++ xs.drop (k + 1)) := by
    have e1 : xs.drop k = [x] ++ xs.drop (k + 1) := by
      rw [List.drop_eq_getElem_cons hk]
      have : xs[k] = x := by rw [List.getElem?_eq_getElem hk] at hx; exact Option.some.inj hx
      rw [this]; rfl
    rw [← e1, List.take_append_drop]
  have e2 : puts l0 xs = puts (puts l0 (xs.take k) ++ numBits x.1.toNat x.2.toNat) (xs.drop (k + 1)) := by
    conv => lhs; rw [e]
    rw [puts_append, puts_append]
    congr 1
    unfold puts
    simp [hf]
  obtain ⟨r, hr⟩ := puts_prefix (xs.drop (k + 1)) (puts l0 (xs.take k) ++ numBits x.1.toNat x.2.toNat)
  rw [e2, hr, List.append_assoc]
  constructor
  · rw [List.drop_left, List.take_append_of_le_length (by rw [numBits_length]; exact Nat.le_refl _), List.take_of_length_le (by rw [numBits_length]; exact Nat.le_refl _), num_numBits, Nat.mod_eq_of_lt h4]
  · rw [List.length_append, List.length_append, numBits_length]; omega
abbrev pairs (xs : List (Int × Int)) : List Value := xs.flatMap fun x => [.int .i64 x.1, .int .i64 x.2]
theorem pairs_get {xs : List (Int × Int)} {k : Nat} {n wd : Int} (h : xs[k]? = some (n, wd)) : (pairs xs)[k * 2]? = some (.int .i64 n) ∧ (pairs xs)[k * 2 + 1]? = some (.int .i64 wd) := by
  have h1 : (pairs xs)[k * 2 + 0]? = (xs[k]?).bind fun x => [Value.int .i64 x.1, Value.int .i64 x.2][0]? := flatMap_get (sz := 2) (fun _ _ => rfl) k 0 (by decide)
  have h2 : (pairs xs)[k * 2 + 1]? = (xs[k]?).bind fun x => [Value.int .i64 x.1, Value.int .i64 x.2][1]? := flatMap_get (sz := 2) (fun _ _ => rfl) k 1 (by decide)
  rw [h] at h1 h2
  exact ⟨h1, h2⟩
theorem num_one {l : List Bool} {k : Nat} {b : Bool} (h : l[k]? = some b) : num ((l.drop k).take 1) = b.toNat := by
  have : (l.drop k).take 1 = [b] := by
    rw [List.take_one, List.head?_drop, h]; rfl
  rw [this]; cases b <;> rfl
theorem info_int : (Try.prog.info? 3).map (fun i => (i.zero, i.size, i.bytes)) = some (some (.int .i64 0), 1, 8) := by kernel_rfl
/-- where the numbers were put -/
def lens (l0 : List Bool) (xs : List (Int × Int)) (k : Nat) : List Int := (List.range k).map fun j => ((puts l0 (xs.take j)).length : Int)
theorem lens_len (l0 : List Bool) (xs : List (Int × Int)) (k : Nat) : (lens l0 xs k).length = k := by simp [lens]
theorem lens_succ (l0 : List Bool) (xs : List (Int × Int)) (k : Nat) : lens l0 xs (k + 1) = lens l0 xs k ++ [((puts l0 (xs.take k)).length : Int)] := by
  simp [lens, List.range_succ]
theorem lens_get (l0 : List Bool) (xs : List (Int × Int)) {k j : Nat} (h : j < k) : (lens l0 xs k)[j]? = some ((puts l0 (xs.take j)).length : Int) := by
  simp [lens, h]
/-- what numbers may be: five cases, as the code asks -/
theorem fits_cases (n wd mn mx : Int) (h1 : min wd 32 = mn) (h2 : max mn 0 = mx) :
    (fits n wd = false ∧ decide (0 ≤ wd) = false) ∨ (fits n wd = false ∧ decide (0 ≤ wd) = true ∧ decide (wd ≤ 32) = false) ∨ (fits n wd = false ∧ decide (0 ≤ wd) = true ∧ decide (wd ≤ 32) = true ∧ decide (0 ≤ n) = false) ∨
    (decide (0 ≤ wd) = true ∧ decide (wd ≤ 32) = true ∧ decide (0 ≤ n) = true ∧ mx = wd ∧ 0 ≤ wd ∧ wd ≤ 32 ∧ 0 ≤ n ∧ decide (n < 2 ^ mx.toNat) = fits n wd) := by
  by_cases c1 : 0 ≤ wd
  · by_cases c2 : wd ≤ 32
    · by_cases c3 : 0 ≤ n
      · refine .inr (.inr (.inr ⟨decide_eq_true c1, decide_eq_true c2, decide_eq_true c3, by omega, c1, c2, c3, ?_⟩))
        obtain rfl : mx = wd := by omega
        unfold fits
        rw [decide_eq_true c1, decide_eq_true c2, decide_eq_true c3]; rfl
      · exact .inr (.inr (.inl ⟨by unfold fits; rw [decide_eq_false c3]; simp, decide_eq_true c1, decide_eq_true c2, decide_eq_false c3⟩))
    · exact .inr (.inl ⟨by unfold fits; rw [decide_eq_false c2]; simp, decide_eq_true c1, decide_eq_false c2⟩)
  · exact .inl ⟨by unfold fits; rw [decide_eq_false c1]; simp, decide_eq_false c1⟩
theorem Put_o (v : Value) (B : List (BitVec 8)) (l : List Bool) (n wd : Nat) (N N' n' wd' : Int) (w : World) (hN : N = l.length) (hN' : N' = ((l.length + wd : Nat) : Int)) (hn' : n' = n) (hwd' : wd' = wd) (hs : SliceAt w 1 v B.length (u8s B)) (hH : Holds B l) (hl : l.length ≤ 999000) (hw : wd ≤ 32) (hn : n < 2 ^ wd) :
    Calls Try.prog 9 #[bv v N, .int .i64 n', .int .i64 wd'] w fun e w' => Below w.heap.size w w' ∧
      ∃ A c B', e = .returned (.tuple #[bv (.slice A (B' : List (BitVec 8)).length c) N', .int .i64 0]) ∧ w'.ownsRow w.heap.size 5 1 (.slice A B'.length c) B'.length (u8s B') ∧ Holds B' (l ++ numBits n wd) := by
  subst hN hN' hn' hwd'
  refine (Put_good v B l n wd w hs hH hl hw hn).mono ?_
  rintro e w' ⟨b, v', B', rfl, ho, hH'⟩
  obtain ⟨A, c, rfl, _⟩ := (sliceAt_of_own ho).form
  exact ⟨b, A, c, B', rfl, ho, hH'⟩
theorem wrap_pow {m : Int} (h0 : 0 ≤ m) (h1 : m ≤ 32) : wrap64 (2 ^ m.toNat) = 2 ^ m.toNat := by
  obtain ⟨n, rfl⟩ : ∃ n : Nat, m = n := ⟨m.toNat, by omega⟩
  have h2 : 2 ^ n ≤ 2 ^ 32 := Nat.pow_le_pow_right (by omega) (by omega)
  have e : ((2 : Int) ^ ((n : Int).toNat)) = ((2 ^ n : Nat) : Int) := by rw [Int.toNat_natCast]; push_cast; rfl
  rw [e]
  generalize 2 ^ n = t at *
  unfold wrap64; omega
theorem slice_keep {S : Nat → Prop} {W W' : World} {sz n : Nat} {v : Value} {cs : List Value} (h : SliceAt W sz v n cs) (hk : Keep S W W') (hS : ∀ q, 0 < n → v.ownBlock = some q → S q) : SliceAt W' sz v n cs := by
  obtain ⟨A, c, rfl, h1, h2, h3, h4⟩ := h
  refine ⟨A, c, rfl, h1, h2, h3, ?_⟩
  rcases Nat.eq_zero_or_pos n with h0 | h0
  · exact .inl h0
  rcases h4 with h4 | ⟨b, off, rfl, hlt, hc⟩
  · exact .inl h4
  · exact .inr ⟨b, off, rfl, Nat.lt_of_lt_of_le hlt hk.size, fun i u hu => (World.cell?_of_block (a := ⟨b, off + i, none⟩) (hk.block b hlt (hS b h0 rfl))).trans (hc i u hu)⟩
theorem slice_lt {W : World} {sz n : Nat} {v : Value} {cs : List Value} (h : SliceAt W sz v n cs) {q : Nat} (hn : 0 < n) (hq : v.ownBlock = some q) : q < W.heap.size := by
  obtain ⟨b, off, c, rfl, _, _, hlt, _⟩ := h.pos hn
  cases hq; exact hlt
/-- behind k of the numbers: block gy holds what was put, va is the row of places -/
structure St (W1 : World) (gy : Nat) (l0 : List Bool) (xs : List (Int × Int)) (k : Nat) (A : Option Addr) (c : Nat) (By : List (BitVec 8)) (va : Value) (wr : World) : Prop where
  y : wr.heap[gy]? = some (.cells #[.slice A By.length c, .int .i64 ((puts l0 (xs.take k)).length : Int)] 24 (0, 0))
  ys : SliceAt wr 1 (.slice A By.length c) By.length (u8s By)
  yh : Holds By (puts l0 (xs.take k))
  yo : ∀ q, 0 < By.length → (Value.slice A By.length c).ownBlock = some q → q ≠ gy ∧ va.ownBlock ≠ some q
  row : wr.ownsRow (gy + 1) 3 1 va k (ints .i64 (lens l0 xs k))
  old : Below gy W1 wr
theorem St.drew {W1 : World} {gy : Nat} {l0 : List Bool} {xs : List (Int × Int)} {k : Nat} {A : Option Addr} {c : Nat} {By : List (BitVec 8)} {va : Value} {wr : World} (h : St W1 gy l0 xs k A c By va wr) : St W1 gy l0 xs k A c By va wr.drew :=
  ⟨h.y, h.ys.later (Below.refl _ _).drew, h.yh, h.yo, own_later h.row (fun _ _ => rfl), h.old.drew⟩
theorem St.app {W1 : World} {gy : Nat} {l0 : List Bool} {xs : List (Int × Int)} {k : Nat} {A : Option Addr} {c : Nat} {By : List (BitVec 8)} {va vb : Value} {wr wa w5 : World} {M : Int} (h : St W1 gy l0 xs k A c By va wr)
    (hb : Below wr.heap.size wr wa) (hg : wa.grownBy w5 va.ownBlock) (hw : vb.ownBlock = va.ownBlock ∨ vb.ownBlock = some wa.heap.size) (ho : w5.ownsRow (gy + 1) 3 1 vb (k + 1) (ints .i64 (lens l0 xs k) ++ [.int .i64 M])) (hM : M = ((puts l0 (xs.take k)).length : Int)) :
    w5.heap[gy]? = wr.heap[gy]? ∧ SliceAt w5 1 (.slice A By.length c) By.length (u8s By) ∧ (∀ q, 0 < By.length → (Value.slice A By.length c).ownBlock = some q → q ≠ gy ∧ vb.ownBlock ≠ some q) ∧ w5.ownsRow (gy + 1) 3 1 vb (k + 1) (ints .i64 (lens l0 xs (k + 1))) ∧ Below gy W1 w5 ∧ (∀ q, vb.ownBlock = some q → gy + 1 ≤ q) := by
  have hgs : gy < wr.heap.size := (Array.getElem?_eq_some_iff.1 h.y).1
  have hva : ∀ q, va.ownBlock = some q → gy + 1 ≤ q ∧ q < wr.heap.size := fun q hq => own_base h.row hq
  have K : Keep (fun q => va.ownBlock ≠ some q) wr w5 := (Keep.of_below hb (fun _ hk _ => hk)).grown hg (fun q hq _ h => h hq)
  refine ⟨K.block gy hgs (fun e => by have := (hva gy e).1; omega), slice_keep h.ys K (fun q hn hq => (h.yo q hn hq).2), fun q hn hq => ⟨(h.yo q hn hq).1, ?_⟩, ?_, h.old.trans (K.below (by omega) (fun q hq e => by have := (hva q e).1; omega)), ?_⟩
  · rcases hw with e | e
    · rw [e]; exact (h.yo q hn hq).2
    · rw [e]; intro e2
      have h1 := slice_lt h.ys hn hq
      have h2 := Option.some.inj e2
      have h3 := hb.size
      omega
  · have e1 : ints .i64 (lens l0 xs (k + 1)) = ints .i64 (lens l0 xs k) ++ [.int .i64 M] := by
      rw [lens_succ, hM]; simp [ints]
    rw [e1]; exact ho
  · intro q hq
    exact (own_base ho hq).1
set_option maxHeartbeats 8000000 in
set_option maxRecDepth 100000 in
theorem walk_good (v u : Value) (B : List (BitVec 8)) (l0 : List Bool) (N : Int) (xs : List (Int × Int)) (w : World) (hs : SliceAt w 1 v B.length (u8s B)) (hu : SliceAt w 2 u xs.length (pairs xs)) (hN : N = l0.length)
    (h1 : B.length ≤ 1000) (h2 : xs.length ≤ 100) (hH : Holds B l0) (hr : ∀ x ∈ xs, (Lit.int .i64 x.1).wf = true ∧ (Lit.int .i64 x.2).wf = true) : Calls Try.prog 4 #[bv v N, u] w fun e w' => e = .returned (.bool true) ∧ Below w.heap.size w w' := by
  obtain ⟨i0, hi, hz0, hz1, hz2⟩ := info_parts info_int
  have V0 := Var.new (N := N) hs
  have BB := below_new w (.cells #[v, .int .i64 N] 24)
  have U0 := hu.later BB
  have q1 : decide ((1000 : Int) < (B.length : Int)) = false := decide_eq_false (by omega)
  have q2 : decide ((100 : Int) < (xs.length : Int)) = false := decide_eq_false (by omega)
  have hll : l0.length ≤ 8000 := by have := hH.1; omega
  have hN3 : N ≤ 8000 := by omega
  have hN4 : 0 ≤ N := by omega
  have HN := Lib.hid hN
  have HRG := Lib.hid hr
  have hyo : ∀ q, 0 < B.length → v.ownBlock = some q → q < w.heap.size := fun q hn hq => slice_lt hs hn hq
  have HYO := Lib.hid hyo
  have hub : ∀ q, 0 < xs.length → u.ownBlock = some q → q < w.heap.size := fun q hn hq => slice_lt hu hn hq
  have HUB := Lib.hid hub
  have hR := right_yes hH hN
  have HR := Lib.hid hR
  obtain ⟨A, c, rfl, _⟩ := hs.form
  obtain ⟨A', c', rfl, _⟩ := hu.form
  have x0 := V0.c0
  have x1 := V0.c1
  clear hs hu hN hR hr hyo hub
  go_enter Try.func4, Try.ntmps4
  go_wp2_with fail
  have hz0w : (w.alloc (.cells #[.slice A B.length c, .int .i64 N] 24)).heap.size = w.heap.size + 1 := by simp
  have HZ0 := Lib.hid hz0w
  clear hz0w
  generalize w.alloc (.cells #[.slice A B.length c, .int .i64 N] 24) = W0 at *
  refine (refRight_g _ B N true _ HR.out V0.sl (by omega) (by omega)).mono ?_
  rintro e w1 ⟨rfl, b1⟩
  have hsz1 : w.heap.size + 1 ≤ w1.heap.size := by have := b1.size; rw [HZ0.out] at this; exact this
  replace V0 := V0.later b1
  replace U0 := U0.later b1
  replace BB := below_step BB b1
  clear x0 x1 b1
  have x0 := V0.c0
  have x1 := V0.c1
  go_wp2_with fail
  have bn := below_new w1 (.cells #[.slice A B.length c, .int .i64 N] 24)
  have hst : St (w1.alloc (.cells #[.slice A B.length c, .int .i64 N] 24)) w1.heap.size l0 xs 0 A c B (.slice none 0 0) (w1.alloc (.cells #[.slice A B.length c, .int .i64 N] 24)) :=
    ⟨by rw [HN.out]; exact new_at rfl _, V0.sl.later bn, hH, fun q hn hq => ⟨by have := HYO.out q hn hq; omega, by intro e; cases e⟩, own_nil _ _ _ _, Below.refl _ _⟩
  have hz1w : (w1.alloc (.cells #[.slice A B.length c, .int .i64 N] 24)).heap.size = w1.heap.size + 1 := by simp
  have HZ1 := Lib.hid hz1w
  replace V0 := V0.later bn
  replace U0 := U0.later bn
  replace BB := below_step BB bn
  clear hz1w bn x0 x1
  generalize w1.alloc (.cells #[.slice A B.length c, .int .i64 N] 24) = W1 at *
  go_loopw [6, 7] (fun va i wr => ∃ (k : Nat) (A : Option Addr) (c : Nat) (By : List (BitVec 8)), k ≤ xs.length ∧ i = .int .i64 k ∧ St W1 w1.heap.size l0 xs k A c By va wr) (fun _ i _ => xs.length - (intOf i).toNat)
  case atStart => exact ⟨0, A, c, B, by omega, rfl, hst⟩
  case round =>
    clear hst
    obtain ⟨k, A2, c2, By, hk, rfl, S⟩ := hrel
    by_cases hlt : k < xs.length
    · obtain ⟨Av, cv, rfl, _⟩ := (sliceAt_of_own S.row).form
      obtain ⟨ub, uo, uc, hva, huc1, huc2, hul, hucell⟩ := U0.pos (by omega)
      obtain ⟨rfl, _, rfl⟩ := Value.slice.inj hva
      have hubl : ub < w1.heap.size := by have := HUB.out ub (by omega) rfl; omega
      have hxk : xs[k]? = some xs[k] := List.getElem?_eq_getElem hlt
      have hrg := HRG.out xs[k] (List.getElem_mem hlt)
      have htk : xs.take (k + 1) = xs.take k ++ [xs[k]] := by rw [List.take_add_one, hxk]; rfl
      have hps := puts_snoc l0 (xs.take k) xs[k]
      rw [← htk] at hps
      generalize xs[k] = x at *
      obtain ⟨nn, wd⟩ := x
      obtain ⟨hp0, hp1⟩ := pairs_get hxk
      have cn := (S.old.cell (p := ⟨ub, uo + k * 2, none⟩) hubl).trans (hucell _ _ hp0)
      have cw : wr.cell? ⟨ub, uo + k * 2 + 1, none⟩ = some (.int .i64 wd) := (S.old.cell (p := ⟨ub, uo + (k * 2 + 1), none⟩) hubl).trans (hucell _ _ hp1)
      have hn12 := i64_bounds hrg.1
      have hw12 := i64_bounds hrg.2
      have HPS := Lib.hid hps
      have hplen := puts_len (xs.take k) l0
      have hplen2 : (puts l0 (xs.take k)).length ≤ 12000 := by
        have : (xs.take k).length ≤ 100 := by rw [List.length_take]; omega
        omega
      have j1 : (k : Int) < (xs.length : Int) := by omega
      have j2 : (0 : Int) ≤ (k : Int) := by omega
      clear hva hucell hxk hrg htk hps hp0 hp1 hplen
      go_wp2_with fail
      go_region_held3 (fun w' => w'.cell? ⟨ub, uo + k * 2, none⟩ = some (.int .i64 nn) ∧ w'.cell? ⟨ub, uo + k * 2 + 1, none⟩ = some (.int .i64 wd)) (first | exact ⟨cn, cw⟩) (first | fail)
      have SD := S.drew
      have hz1r : w1.heap.size < wr.drew.heap.size := (Array.getElem?_eq_some_iff.1 SD.y).1
      clear S cn cw
      generalize wr.drew = wr at *
      obtain ⟨mn, hmn⟩ : ∃ z, min wd 32 = z := ⟨_, rfl⟩
      obtain ⟨mx, hmx⟩ : ∃ z, max mn 0 = z := ⟨_, rfl⟩
      have hfc := fits_cases nn wd mn mx hmn hmx
      obtain ⟨hn1, hn2⟩ := hn12
      obtain ⟨M, hM⟩ : ∃ M : Int, M = ((puts l0 (xs.take k)).length : Int) := ⟨_, rfl⟩
      have HM := Lib.hid hM
      have hM2 : 0 ≤ M ∧ M ≤ 12000 := by omega
      obtain ⟨hM3, hM4⟩ := hM2
      have SY := SD.y
      rw [← hM] at SY
      have y0 := cell_at SY 0
      have y1 := cell_at SY 1
      clear hM
      have hcase : (fits nn wd = false ∧ (decide (0 ≤ wd) = false ∨ (decide (0 ≤ wd) = true ∧ decide (wd ≤ 32) = false) ∨ (decide (0 ≤ wd) = true ∧ decide (wd ≤ 32) = true ∧ decide (0 ≤ nn) = false) ∨ (decide (0 ≤ wd) = true ∧ decide (wd ≤ 32) = true ∧ decide (0 ≤ nn) = true ∧ (0 ≤ mx ∧ mx ≤ 32) ∧ wrap64 (2 ^ mx.toNat) = 2 ^ mx.toNat ∧ decide (nn < 2 ^ mx.toNat) = false))) ∨
          (fits nn wd = true ∧ decide (0 ≤ wd) = true ∧ decide (wd ≤ 32) = true ∧ decide (0 ≤ nn) = true ∧ (0 ≤ mx ∧ mx ≤ 32) ∧ wrap64 (2 ^ mx.toNat) = 2 ^ mx.toNat ∧ decide (nn < 2 ^ mx.toNat) = true) := by
        rcases hfc with ⟨hf, f1⟩ | ⟨hf, f1, f2⟩ | ⟨hf, f1, f2, f3⟩ | ⟨f1, f2, f3, rfl, g1, g2, g3, hf⟩
        · exact .inl ⟨hf, .inl f1⟩
        · exact .inl ⟨hf, .inr (.inl ⟨f1, f2⟩)⟩
        · exact .inl ⟨hf, .inr (.inr (.inl ⟨f1, f2, f3⟩))⟩
        · have hP := wrap_pow g1 g2
          rcases hb : fits nn mx with _ | _
          · exact .inl ⟨rfl, .inr (.inr (.inr ⟨f1, f2, f3, ⟨g1, g2⟩, hP, by rw [hf, hb]⟩))⟩
          · exact .inr ⟨rfl, f1, f2, f3, ⟨g1, g2⟩, hP, by rw [hf, hb]⟩
      clear hfc
      have hl8 : By.length ≤ 140737488355328 := by have := SD.yh.1; omega
      have hAw : ∀ q, (Value.slice Av k cv).ownBlock = some q → w1.heap.size + 1 ≤ q ∧ q < wr.heap.size := fun q hq => own_base SD.row hq
      have HAW := Lib.hid hAw
      clear hAw
      rcases hcase with ⟨hf, f1 | ⟨f1, f2⟩ | ⟨f1, f2, f3⟩ | ⟨f1, f2, f3, ⟨f4, f5⟩, f6, f7⟩⟩ | ⟨hf, f1, f2, f3, ⟨f4, f5⟩, f6, f7⟩
      rotate_left 4
      · have hps := HPS.out
        rw [hf, if_pos rfl] at hps
        have HP := Lib.hid hps
        obtain ⟨gf1, gf2, gf3, gf4⟩ := fits_nat hf
        have HF4 := Lib.hid gf4
        clear hps hf HPS gf4
        go_wp2_with fail
        refine (Put_o _ By (puts l0 (xs.take k)) nn.toNat wd.toNat M (M + wd) nn wd _ HM.out (by rw [HM.out]; omega) (by omega) (by omega) SD.ys SD.yh (by omega) (by omega) HF4.out).mono ?_
        rintro e w4 ⟨b4, A4, c4, B4, rfl, ho4, hH4⟩
        have b4n := below_step b4 (below_new w4 (.cells #[.slice A4 B4.length c4, .int .i64 (M + wd)] 24))
        have hz4 := b4.size
        have g0 := below_at b4n SY hz1r
        clear y0 y1
        have y0 := cell_at g0 0
        have y1 := cell_at g0 1
        have hown := own_later (w' := (w4.alloc (.cells #[.slice A4 B4.length c4, .int .i64 (M + wd)] 24)).alloc (.cells #[.int .i64 M] 3)) SD.row (fun q hq => (below_step b4n (below_new _ _)).block q (own_base SD.row hq).2)
        go_wp2_with (at_builtin; refine wpList_append_src (by rfl) (.tmp 104) (.tmp 107) _ (by rfl) (w1.heap.size + 1) 3 i0 _ 1 8 Try.underlying40 hi hz0 hz1 hz2 rfl (by omega) (.slice Av k cv) k (ints .i64 (lens l0 xs k)) (by rfl) hown (.slice (some ⟨w4.heap.size + 1, 0, none⟩) 1 1) 1 [.int .i64 M] (by rfl) (sliceAt_blk (new_at (by simp) _) rfl (by simp [maxLen])) (by simp [Value.oneCell']) (by simp only [maxLen]; omega) (by omega) (by simp; omega) ?_; intro v5 w5 ho5 hg5 hw5; obtain ⟨A5, c5, rfl, _, _⟩ := (sliceAt_of_own ho5).form; have hA5 := SD.app (below_step b4n (below_new _ _)) hg5 hw5 ho5 HM.out; have gy5 := hA5.1.trans SY; have go5 := (hg5.block w4.heap.size (by simp; omega) (fun e => by have := (HAW.out _ e.symm).2; omega)).trans (old_at (new_at rfl (.cells #[.slice A4 B4.length c4, .int .i64 (M + wd)] 24)) (.cells #[.int .i64 M] 3)); have o0 := cell_at go5 0; have o1 := cell_at go5 1; have z0 := cell_at gy5 0; have z1 := cell_at gy5 1; have e0 := free_at gy5 0; have e1 := free_at gy5 1; have HA5 := Lib.hid hA5; clear hA5)
        go_roundw
        case rel =>
          obtain ⟨r1, r2, r3, r4, r5, r6⟩ := HA5.out
          have hmw : M + wd = ((puts l0 (xs.take (k + 1))).length : Int) := by rw [HP.out, List.length_append, numBits_length, HM.out]; omega
          refine ⟨k + 1, A4, c4, B4, by omega, by go_num, ⟨?_, ?_, ?_, ?_, ?_, ?_⟩⟩
          · rw [← hmw]; exact set_at (set_at gy5 0 _) 1 _
          · refine sliceAt_of_own (own_set (own_set (own_later ho4 (fun q hq => ?_)) (by omega) _) (by omega) _)
            have hq1 := own_base ho4 hq
            exact (hg5.block q (by simp; omega) (fun e => by have := (HAW.out _ e.symm).2; omega)).trans ((Below.heap_alloc _ _ q (by simp; omega)).trans (Below.heap_alloc _ _ q hq1.2))
          · rw [HP.out]; exact hH4
          · intro q hn hq
            have hq1 := own_base ho4 hq
            refine ⟨by omega, fun e => ?_⟩
            rcases hw5 with h | h
            · rw [h] at e; have := (HAW.out _ e).2; omega
            · rw [h] at e; have := Option.some.inj e; simp at this; omega
          · exact own_set (own_set r4 (by simp) _) (by simp) _
          · exact (r5.setCell (Nat.le_refl _) _).setCell (Nat.le_refl _) _
        case measure => simp [intOf]; omega
      all_goals
        have hps := HPS.out
        rw [hf, if_neg (by simp)] at hps
        have HP := Lib.hid hps
        have HF := Lib.hid hf
        clear hps hf HPS
        go_wp2_with fail
        refine (Put_bad _ By M nn wd _ SD.ys hl8 (by omega) (by omega) hn2 (by rw [HF.out, Bool.and_false])).mono ?_
        rintro e w4 ⟨b4, rfl⟩
        have b4n := below_step b4 (below_new w4 (.cells #[.slice none 0 0, .int .i64 0] 24))
        have hz4 := b4.size
        have g0 := below_at b4n SY hz1r
        clear y0 y1
        have y0 := cell_at g0 0
        have y1 := cell_at g0 1
        have hown := own_later (w' := (w4.alloc (.cells #[.slice none 0 0, .int .i64 0] 24)).alloc (.cells #[.int .i64 M] 3)) SD.row (fun q hq => (below_step b4n (below_new _ _)).block q (own_base SD.row hq).2)
        go_wp2_with (at_builtin; refine wpList_append_src (by rfl) (.tmp 104) (.tmp 107) _ (by rfl) (w1.heap.size + 1) 3 i0 _ 1 8 Try.underlying40 hi hz0 hz1 hz2 rfl (by omega) (.slice Av k cv) k (ints .i64 (lens l0 xs k)) (by rfl) hown (.slice (some ⟨w4.heap.size + 1, 0, none⟩) 1 1) 1 [.int .i64 M] (by rfl) (sliceAt_blk (new_at (by simp) _) rfl (by simp [maxLen])) (by simp [Value.oneCell']) (by simp only [maxLen]; omega) (by omega) (by simp; omega) ?_; intro v5 w5 ho5 hg5 hw5; obtain ⟨A5, c5, rfl, _, _⟩ := (sliceAt_of_own ho5).form)
        go_roundw
        case rel =>
          obtain ⟨r1, r2, r3, r4, r5, _⟩ := SD.app (below_step b4n (below_new _ _)) hg5 hw5 ho5 HM.out
          refine ⟨k + 1, A2, c2, By, by omega, by go_num, ⟨?_, r2, ?_, r3, r4, r5⟩⟩
          · rw [r1, HP.out]; exact SD.y
          · rw [HP.out]; exact SD.yh
        case measure => simp [intOf]; omega
    · obtain rfl : k = xs.length := by omega
      have hte : xs.take xs.length = xs := List.take_of_length_le (Nat.le_refl _)
      obtain ⟨Av, cv, rfl, _⟩ := (sliceAt_of_own S.row).form
      obtain ⟨M, hM⟩ : ∃ M : Int, M = ((puts l0 xs).length : Int) := ⟨_, rfl⟩
      have hplen := puts_len xs l0
      have hM2 : 0 ≤ M ∧ M ≤ 12000 := by omega
      obtain ⟨hM3, hM4⟩ := hM2
      have Vy : Var wr w1.heap.size (.slice A2 By.length c2) By M := ⟨by have := S.y; rw [hte, ← hM] at this; exact this, S.ys⟩
      have hHy : Holds By (puts l0 xs) := by have := S.yh; rw [hte] at this; exact this
      have Vx : Var wr w.heap.size (.slice A B.length c) B N := ⟨(S.old.block _ (by omega)).trans V0.at_, slice_keep V0.sl (Keep.of_below S.old (S := fun q => q < w1.heap.size) (fun _ _ h => h)) (fun q hn hq => by have := HYO.out q hn hq; omega)⟩
      have Ur := slice_keep U0 (Keep.of_below S.old (S := fun q => q < w1.heap.size) (fun _ _ h => h)) (fun q hn hq => by have := HUB.out q hn hq; omega)
      have Rr := sliceAt_of_own S.row
      have Br : Below w.heap.size w wr := BB.trans (S.old.mono (by omega))
      have HM := Lib.hid hM
      have hpl2 : (puts l0 xs).length ≤ 12000 := by omega
      clear S hte V0 U0 BB hM hplen HYO HUB
      go_wp2_with fail
      go_loopw [13] (fun i w2 => ∃ j : Nat, j ≤ xs.length ∧ i = .int .i64 j ∧ Below wr.heap.size wr w2) (fun i _ => xs.length - (intOf i).toNat)
      case atStart => exact ⟨0, by omega, rfl, Below.refl _ _⟩
      case round =>
        obtain ⟨j, hj, rfl, hb⟩ := hrel
        by_cases hjl : j < xs.length
        · obtain ⟨ub, uo, uc, hva, _, _, hul2, hucell⟩ := Ur.pos (by omega)
          obtain ⟨rfl, _, rfl⟩ := Value.slice.inj hva
          obtain ⟨rb, ro, rc, hvr, hrc1, hrc2, hrl, hrcell⟩ := Rr.pos (by omega)
          obtain ⟨rfl, _, rfl⟩ := Value.slice.inj hvr
          have hxk : xs[j]? = some xs[j] := List.getElem?_eq_getElem hjl
          have hrg := HRG.out xs[j] (List.getElem_mem hjl)
          have hput := puts_take l0 xs j xs[j] hxk
          generalize xs[j] = x at *
          obtain ⟨nn, wd⟩ := x
          obtain ⟨hp0, hp1⟩ := pairs_get hxk
          have cn := (hb.cell (p := ⟨ub, uo + j * 2, none⟩) hul2).trans (hucell _ _ hp0)
          have cw : wr.cell? ⟨ub, uo + j * 2 + 1, none⟩ = some (.int .i64 wd) := (hb.cell (p := ⟨ub, uo + (j * 2 + 1), none⟩) hul2).trans (hucell _ _ hp1)
          obtain ⟨P, hP⟩ : ∃ P : Int, P = ((puts l0 (xs.take j)).length : Int) := ⟨_, rfl⟩
          have ca := (hb.cell (p := ⟨rb, ro + j, none⟩) hrl).trans (hrcell j (.int .i64 P) (by rw [hP]; simp [ints, lens_get l0 xs hjl]))
          obtain ⟨hn1, hn2⟩ := i64_bounds hrg.1
          have hw12 := i64_bounds hrg.2
          have HPUT := Lib.hid hput
          have HPP := Lib.hid hP
          have j1 : (j : Int) < (xs.length : Int) := by omega
          have j2 : (0 : Int) ≤ (j : Int) := by omega
          have Y := Vy.later hb
          have YD := Y.later (Below.refl _ _).drew
          clear hva hucell hvr hrcell hxk hrg hput hP hp0 hp1
          go_wp2_with fail
          go_region_held3 (fun w' => w'.cell? ⟨ub, uo + j * 2, none⟩ = some (.int .i64 nn) ∧ w'.cell? ⟨ub, uo + j * 2 + 1, none⟩ = some (.int .i64 wd)) (first | exact ⟨cn, cw⟩) (first | fail)
          have hcase : (decide (wd < 0) = true) ∨ (decide (wd < 0) = false ∧ decide (32 < wd) = true) ∨ (decide (wd < 0) = false ∧ decide (32 < wd) = false ∧ decide (nn < 0) = true) ∨
              (decide (wd < 0) = false ∧ decide (32 < wd) = false ∧ decide (nn < 0) = false ∧ (0 ≤ wd ∧ wd ≤ 32) ∧ wrap64 (2 ^ wd.toNat) = 2 ^ wd.toNat ∧ decide (2 ^ wd.toNat ≤ nn) = true) ∨
              (decide (wd < 0) = false ∧ decide (32 < wd) = false ∧ decide (nn < 0) = false ∧ (0 ≤ wd ∧ wd ≤ 32 ∧ 0 ≤ nn) ∧ wrap64 (2 ^ wd.toNat) = 2 ^ wd.toNat ∧ decide (2 ^ wd.toNat ≤ nn) = false ∧ fits nn wd = true) := by
            by_cases c1 : wd < 0
            · exact .inl (decide_eq_true c1)
            by_cases c2 : 32 < wd
            · exact .inr (.inl ⟨decide_eq_false c1, decide_eq_true c2⟩)
            by_cases c3 : nn < 0
            · exact .inr (.inr (.inl ⟨decide_eq_false c1, decide_eq_false c2, decide_eq_true c3⟩))
            by_cases c4 : 2 ^ wd.toNat ≤ nn
            · exact .inr (.inr (.inr (.inl ⟨decide_eq_false c1, decide_eq_false c2, decide_eq_false c3, ⟨by omega, by omega⟩, wrap_pow (by omega) (by omega), decide_eq_true c4⟩)))
            · refine .inr (.inr (.inr (.inr ⟨decide_eq_false c1, decide_eq_false c2, decide_eq_false c3, ⟨by omega, by omega, by omega⟩, wrap_pow (by omega) (by omega), decide_eq_false c4, ?_⟩)))
              unfold fits
              rw [decide_eq_true (show 0 ≤ wd by omega), decide_eq_true (show wd ≤ 32 by omega), decide_eq_true (show 0 ≤ nn by omega), decide_eq_true (show nn < 2 ^ wd.toNat by omega)]; rfl
          rcases hcase with f1 | ⟨f1, f2⟩ | ⟨f1, f2, f3⟩ | ⟨f1, f2, f3, ⟨g1, g2⟩, f4, f5⟩ | ⟨f1, f2, f3, ⟨g1, g2, g3⟩, f4, f5, hf⟩
          rotate_left 4
          · obtain ⟨ht1, ht2⟩ := HPUT.out hf
            have HT1 := Lib.hid ht1
            have HT2 := Lib.hid ht2
            clear ht1 ht2 hf
            have YDD := YD.later (Below.refl _ _).drew
            have hw0 : wd = ((wd.toNat : Nat) : Int) := by omega
            have hn0 : nn = ((nn.toNat : Nat) : Int) := by omega
            have HW0 := Lib.hid hw0
            have HN0 := Lib.hid hn0
            clear hw0 hn0 cn cw
            go_wp2_with fail
            go_region_held3 (fun w' => w'.cell? ⟨w1.heap.size, 0, none⟩ = some (.slice A2 By.length c2) ∧ w'.cell? ⟨w1.heap.size, 1, none⟩ = some (.int .i64 M) ∧ w'.cell? ⟨rb, ro + j, none⟩ = some (.int .i64 P)) (first | exact ⟨Y5.c0, Y5.c1, ca5⟩ | exact ⟨YDD.c0, YDD.c1, ca⟩)
              (first | (go_at_call 16; refine (Take_g _ By (puts l0 xs) (puts l0 (xs.take j)).length wd.toNat M P wd nn _ HM.out HPP.out HW0.out (by rw [HT1.out]; exact HN0.out) YDD.sl hHy (by omega) (by omega) HT2.out).mono ?_; rintro e w5 ⟨b5, rfl⟩; have Y5 := YDD.later b5; have ca5 := (b5.cell (p := ⟨rb, ro + j, none⟩) (Nat.lt_of_lt_of_le hrl hb.size)).trans ca))
            go_wp2
            go_roundw
            case rel => exact ⟨j + 1, by omega, by go_num, hb.drew.drew.trans (b5.mono hb.size)⟩
            case measure => simp [intOf]; omega
          all_goals
            go_wp2
            go_roundw
            case rel => exact ⟨j + 1, by omega, by go_num, hb.drew⟩
            case measure => simp [intOf]; omega
        · obtain rfl : j = xs.length := by omega
          have X := Vx.later hb
          have Y := Vy.later hb
          replace Br := below_step Br hb
          obtain ⟨rr, hrr⟩ := puts_prefix xs l0
          have HRR := Lib.hid hrr
          clear Vx Vy Ur Rr hb hrr HRG
          have x1 := X.c1
          go_wp2_with fail
          go_loopw [18] (fun i w3 => ∃ t : Nat, (t : Int) ≤ N ∧ i = .int .i64 t ∧ Below wr.heap.size wr w3) (fun i _ => (N - intOf i).toNat)
          case atStart => exact ⟨0, by omega, rfl, Below.refl _ _⟩
          case round =>
            obtain ⟨t, ht, rfl, hb⟩ := hrel
            have X3 := X.later hb
            have Y3 := Y.later hb
            clear x1
            have x0 := X3.c0
            have x1 := X3.c1
            have y0 := Y3.c0
            have y1 := Y3.c1
            by_cases htn : (t : Int) < N
            · have hln := HN.out
              have hmn := HM.out
              have hk1 : t < l0.length := by omega
              have hk2 : l0.length ≤ (puts l0 xs).length := by rw [HRR.out, List.length_append]; omega
              have ga : l0[t]? = some l0[t] := List.getElem?_eq_getElem hk1
              have gb : (puts l0 xs)[t]? = some l0[t] := by rw [HRR.out, List.getElem?_append_left hk1]; exact ga
              have hra := num_one ga
              have hrb := num_one gb
              generalize l0[t] = a at *
              have HA := Lib.hid hra
              have HB := Lib.hid hrb
              clear hra hrb ga gb hln hmn
              go_wp2_with fail
              refine (Take_g _ B l0 t 1 N t 1 (a.toNat : Int) _ HN.out rfl rfl (by rw [HA.out]) X3.sl hH (by omega) (by decide) (by omega)).mono ?_
              rintro e w5 ⟨b5, rfl⟩
              replace Y3 := Y3.later b5
              clear x0 x1 y0 y1
              have y0 := Y3.c0
              have y1 := Y3.c1
              go_wp2_with fail
              refine (Take_g _ By (puts l0 xs) t 1 M t 1 (a.toNat : Int) _ HM.out rfl rfl (by rw [HB.out]) Y3.sl hHy (by omega) (by decide) (by omega)).mono ?_
              rintro e w6 ⟨b6, rfl⟩
              clear y0 y1
              go_wp2
              go_roundw
              case rel => exact ⟨t + 1, by omega, by go_num, hb.trans ((below_step b5 b6).mono hb.size)⟩
              case measure => simp [intOf]; omega
            · have hex : decide ((t : Int) < N) = false := decide_eq_false htn
              replace Br := below_step Br hb
              go_wp2_with fail
              refine (Right_g _ By M true _ (right_yes hHy HM.out) Y3.sl (by omega) (by omega)).mono ?_
              rintro e w7 ⟨rfl, b7⟩
              go_wp2_with fail
              refine (wakes_c _).mono ?_
              rintro e w9 ⟨rfl, b9⟩
              go_wp2
              go_ret
              exact ⟨rfl, below_step (below_step Br b7) b9⟩
set_option maxHeartbeats 1000000 in
set_option maxRecDepth 100000 in
theorem walk (v u : Value) (B : List (BitVec 8)) (N : Int) (xs : List (Int × Int)) (w : World) (hs : SliceAt w 1 v B.length (u8s B)) (hu : SliceAt w 2 u xs.length (pairs xs)) (hN1 : -9223372036854775808 ≤ N) (hN2 : N ≤ 9223372036854775807)
    (hr : ∀ x ∈ xs, (Lit.int .i64 x.1).wf = true ∧ (Lit.int .i64 x.2).wf = true) : Calls Try.prog 4 #[bv v N, u] w fun e w' => e = .returned (.bool true) ∧ Below w.heap.size w w' := by
  have BB := below_new w (.cells #[v, .int .i64 N] 24)
  have V0 := Var.new (N := N) hs
  by_cases h1 : B.length ≤ 1000
  · by_cases h2 : xs.length ≤ 100
    · rcases hr1 : right B N with _ | _
      · have q1 : decide ((1000 : Int) < (B.length : Int)) = false := decide_eq_false (by omega)
        have q2 : decide ((100 : Int) < (xs.length : Int)) = false := decide_eq_false (by omega)
        have HR := Lib.hid hr1
        obtain ⟨A, c, rfl, _⟩ := hs.form
        obtain ⟨A', c', rfl, _⟩ := hu.form
        clear hs hu hr1 hr
        go_enter Try.func4, Try.ntmps4
        go_wp2_with fail
        refine (refRight_g _ B N false _ HR.out.symm V0.sl hN1 hN2).mono ?_
        rintro e w1 ⟨rfl, b1⟩
        replace BB := below_step BB b1
        go_wp2_with fail
        refine (wakes_c _).mono ?_
        rintro e w9 ⟨rfl, b9⟩
        go_wp2
        go_ret
        exact ⟨rfl, below_step BB b9⟩
      · obtain ⟨l, hN, hH⟩ := (right_iff B N).1 hr1
        exact walk_good v u B l N xs w hs hu hN h1 h2 hH hr
    · have q1 : decide ((1000 : Int) < (B.length : Int)) = false := decide_eq_false (by omega)
      have q2 : decide ((100 : Int) < (xs.length : Int)) = true := decide_eq_true (by omega)
      have q3 : ¬ xs.length ≤ 100 := h2
      obtain ⟨A, c, rfl, _⟩ := hs.form
      obtain ⟨A', c', rfl, _⟩ := hu.form
      clear hr
      go_enter Try.func4, Try.ntmps4
      go_wp2_with fail
      refine (wakes_c _).mono ?_
      rintro e w9 ⟨rfl, b9⟩
      go_wp2
      go_ret
      exact ⟨rfl, below_step BB b9⟩
  · have q1 : decide ((1000 : Int) < (B.length : Int)) = true := decide_eq_true (by omega)
    obtain ⟨A, c, rfl, _⟩ := hs.form
    obtain ⟨A', c', rfl, _⟩ := hu.form
    clear hr
    go_enter Try.func4, Try.ntmps4
    go_wp2_with fail
    refine (wakes_c _).mono ?_
    rintro e w9 ⟨rfl, b9⟩
    go_wp2
    go_ret
    exact ⟨rfl, below_step BB b9⟩
theorem open_pairs {H : Type} {enc : TypeId × Value → H} {w : World} {base : Nat} {v : Value} {d : DataW H} {p : List MemPlace}
    (hv : Value.okWide Try.prog w .any base 39 v) (h : DataW.Trod enc Try.prog w 0 (fun _ => true) true 39 v d p) :
    ∃ xs : List (Int × Int), SliceAt w 2 v xs.length (pairs xs) ∧ ∀ x ∈ xs, (Lit.int .i64 x.1).wf = true ∧ (Lit.int .i64 x.2).wf = true :=
  open_arg (sz := 2) (fun x : Int × Int => [Value.int .i64 x.1, Value.int .i64 x.2]) (fun x => (Lit.int .i64 x.1).wf = true ∧ (Lit.int .i64 x.2).wf = true) (fun _ => rfl) (by omega) Try.underlying39 (by kernel_rfl)
    (fun m cs x hl ht' => by
      obtain ⟨ys, n, _, _, _, hlen, hel⟩ := DataW.trod_array Try.underlying41 ht'
      match cs, hl with
      | [c0, c1], _ =>
        have hce : Try.prog.cellsOf 3 = 1 := by kernel_rfl
        match ys, hlen with
        | [y0, y1], _ =>
          have e0 := hel 0 (by omega)
          have e1 := hel 1 (by omega)
          rw [hce] at e0 e1
          obtain ⟨a, ha, _, hwa⟩ := DataW.trod_int Try.underlying3 (show DataW.trod enc Try.prog w 0 (fun _ => true) true n 3 [c0] = some y0 from e0)
          obtain ⟨b, hb, _, hwb⟩ := DataW.trod_int Try.underlying3 (show DataW.trod enc Try.prog w 0 (fun _ => true) true n 3 [c1] = some y1 from e1)
          obtain rfl := List.cons.inj ha |>.1
          obtain rfl := List.cons.inj hb |>.1
          exact ⟨(a, b), ⟨hwa, hwb⟩, rfl⟩) hv h

theorem own : ownKnob Try.prog.godebug = none := by kernel_rfl
theorem laidOut : laidOutB Try.prog = true := by kernel_rfl
noncomputable def wit (os : Os) : World := World.holding Try.prog os ⟨#[], #[], []⟩
set_option maxRecDepth 100000 in
theorem lifted (os : Os) (started : os.Started) (H : Type) (enc : TypeId × Value → H) (F : Stop.Interp) :
    ReturnsInHanded {} Try.checked os 4 .any ((OpenSpec.ofChange Rows.bitsBackSpec).preRow enc Try.prog Try.f4 Rows.bitsBackRow.domain false Rows.bitsBackRow.laid) (((OpenSpec.ofChange Rows.bitsBackSpec).at F).post enc Try.prog Try.f4 false true false false) := by
  obtain ⟨x, hx⟩ : ∃ x, DataW.whole enc Try.prog ((wit os).forCall (fun _ _ => 0) ⟨#[], #[.agg #[.slice none 0 0, .int .i64 0], .slice none 0 0], []⟩).memory Try.f4.params.toList Rows.bitsBackSpec.vars false (#[.agg #[.slice none 0 0, .int .i64 0], .slice none 0 0] : Array Value).toList 8 = some x := Option.isSome_iff_exists.1 (by kernel_rfl)
  refine Fr.lift (C := Try.checked) (s := OpenSpec.ofChange Rows.bitsBackSpec) own started (by kernel_rfl) Try.func4
    (witness_row_at (enc := enc) (C := Try.checked) false (wit os) #[.agg #[.slice none 0 0, .int .i64 0], .slice none 0 0] rfl (by kernel_rfl) (by kernel_rfl) (by kernel_rfl)
      (OpenSpec.preRow_of_cond 8 hx rfl (fun k hk => by cases hk) (by kernel_rfl) (laidMet_of_run' 8 (by kernel_rfl) (by kernel_rfl))))
    laidOut (by kernel_rfl) rfl Try.underlying4 rfl rfl ?_ ?_
  · intro ds hds
    match ds, hds with
    | [_, _], _ => rfl
  · intro W base args ds before hval hA hlt _ hz hL
    rw [Try.params4] at hA hval
    obtain ⟨v0, vs0, d0, ds0, p0, q0, hargs, rfl, rfl, h0, r0⟩ := trodAll_cons hA
    obtain ⟨v1, vs1, d1, ds1, p1, q1, rfl, rfl, rfl, h1, r1⟩ := trodAll_cons r0
    obtain ⟨rfl, rfl, rfl⟩ := trodAll_nil r1
    obtain rfl : args = #[v0, v1] := by cases args; simp_all
    obtain ⟨u, B, N, rfl, hB, hN1, hN2⟩ := open_bits (hval 0 _ v0 rfl rfl) h0
    obtain ⟨xs, hxs, hr⟩ := open_pairs (hval 1 _ v1 rfl rfl) h1
    exact walk u v1 B N xs W hB hxs hN1 hN2 hr

theorem said : Rows.BitsBackSaid :=
  OpenClaim.holds_of_cond 4 Try.f4 rfl rfl rfl rfl rfl rfl rfl ⟨rfl, rfl, rfl, rfl, rfl⟩ rfl rfl rfl rfl rfl (by kernel_rfl) Try.func4 (by kernel_rfl)
    (of_decide_eq_true (by kernel_rfl)) (by unfold Func.isWrapper; first | (rw [if_pos (by decide +kernel)]; kernel_rfl) | (rw [if_neg (by decide +kernel)]; exact ⟨rfl, rfl⟩))
    (fun os started H enc _ F => by rw [OpenClaim.pre_eq_preRow]; exact lifted os started H enc F)
#print axioms said
end Go.Proofs.Ytgmmoflihndieaa.bitsBack
