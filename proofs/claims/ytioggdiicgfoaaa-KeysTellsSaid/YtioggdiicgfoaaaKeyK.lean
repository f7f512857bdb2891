/- Keys: the closures of Take. -/
import Derived.Test.YtioggdiicgfoaaaKeyJ
namespace Go.Proofs.Ytioggdiicgfoaaa
open Go.RowKit Rf Mem KM Bits Bv
attribute [local go_sem ↓] run_max2 run_min2
/-- what Take carries -/
structure TkI (w : World) (g : Nat) (L : List Value) (v : Value) (pl : List (BitVec 8)) (l : List Bool) (ns ne nc : Nat) (q : Btn) (k : Nat) (W : World) : Prop where
  bel : Below w.heap.size w W
  lay : W.heap[w.heap.size]? = some (.cells L.toArray 29 (0, 0))
  bb : W.heap[w.heap.size + 1]? = some (.cells (btnV q).toArray 33 (0, 0))
  c : W.heap[g]? = some (.cells #[.int .i64 ns, .int .i64 ne, .int .i64 nc] 59 (0, 0))
  x : W.heap[g + 1]? = some (.cells #[v, .int .i64 ((l.length : Nat) : Int)] 62 (0, 0))
  at_ : W.heap[g + 1 + 1]? = some (.cells #[.int .i64 ((k : Nat) : Int)] 3 (0, 0))
  nx : W.heap[g + 1 + 1 + 1]? = some (.cells #[.func (.func 20) #[] #[.pointer (some ⟨g + 1, 0, none⟩), .pointer (some ⟨g + 1 + 1, 0, none⟩)]] 66 (0, 0))
  sl : W.ownsRow (w.heap.size + 1 + 1) 5 1 v pl.length (u8s pl)
  low : ∀ j, v.ownBlock = some j → j < g
  hg : w.heap.size + 1 < g
section
variable {w : World} {g : Nat} {L : List Value} {v : Value} {pl : List (BitVec 8)} {l : List Bool} {ns ne nc : Nat} {q : Btn} {k : Nat} {W : World}
theorem TkI.later {W' : World} (h : TkI w g L v pl l ns ne nc q k W) (b : Below W.heap.size W W') : TkI w g L v pl l ns ne nc q k W' :=
  ⟨below_step h.bel b, var_later h.lay b, var_later h.bb b, var_later h.c b, var_later h.x b, var_later h.at_ b, var_later h.nx b, own_bel h.sl b, h.low, h.hg⟩
theorem TkI.setAt {k' : Nat} (h : TkI w g L v pl l ns ne nc q k W) : TkI w g L v pl l ns ne nc q k' (W.setCell ⟨g + 1 + 1, 0, none⟩ (.int .i64 ((k' : Nat) : Int))) := by
  have hg := h.hg
  exact ⟨h.bel.setCell (by simp only; omega) _, set_far h.lay (by simp only; omega) _, set_far h.bb (by simp only; omega) _, set_far h.c (by simp only; omega) _, set_far h.x (by simp only; omega) _,
    by rw [set_at h.at_ 0]; rfl, set_far h.nx (by simp only; omega) _, own_later h.sl (fun j hj => Below.heap_setCell W _ _ j (by have := h.low j hj; simp only; omega)), h.low, hg⟩
theorem TkI.setB {q' : Btn} {o : Nat} {u : Value} (h : TkI w g L v pl l ns ne nc q k W) (he : (btnV q).toArray.setIfInBounds o u = (btnV q').toArray) : TkI w g L v pl l ns ne nc q' k (W.setCell ⟨w.heap.size + 1, o, none⟩ u) := by
  have hg := h.hg
  exact ⟨h.bel.setCell (by simp only; omega) _, set_far h.lay (by simp only; omega) _, by rw [set_at h.bb o, he], set_far h.c (by simp only; omega) _, set_far h.x (by simp only; omega) _,
    set_far h.at_ (by simp only; omega) _, set_far h.nx (by simp only; omega) _, own_set h.sl (Nat.lt_succ_self _) _, h.low, hg⟩
end
theorem next_c (w : World) (g : Nat) (L : List Value) (v : Value) (pl : List (BitVec 8)) (l : List Bool) (ns ne nc : Nat) (q : Btn) (k wd : Nat) (wd' r : Int) (W : World) (hw' : wd' = ((wd : Nat) : Int)) (hr : r = ((num ((l.drop k).take wd) : Nat) : Int)) (h : TkI w g L v pl l ns ne nc q k W) (hH : Holds pl l) (hl : l.length ≤ 1000000) (hw : wd ≤ 32) (hk : k + wd ≤ l.length) :
    Calls Try.prog 20 #[.int .i64 wd', .pointer (some ⟨g + 1, 0, none⟩), .pointer (some ⟨g + 1 + 1, 0, none⟩)] W fun e W' => e = .returned (.int .i64 r) ∧ TkI w g L v pl l ns ne nc q (k + wd) W' := by
  obtain ⟨A, c, rfl, _⟩ := (sliceAt_of_own h.sl).form
  have HR := Lib.hid hr
  have HW := Lib.hid hw'
  have hw2 : 0 ≤ wd' ∧ wd' ≤ 32 := by omega
  have hx := h.x
  obtain ⟨N, hN⟩ : ∃ N : Int, N = ((l.length : Nat) : Int) := ⟨_, rfl⟩
  obtain ⟨K0, hK0⟩ : ∃ K0 : Int, K0 = ((k : Nat) : Int) := ⟨_, rfl⟩
  have ha := h.at_
  rw [← hN] at hx
  rw [← hK0] at ha
  have c0 := cell_at hx 0
  have c1 := cell_at hx 1
  have a0 := cell_at ha 0
  have HN := Lib.hid hN
  have HK := Lib.hid hK0
  have hb1 : 0 ≤ K0 ∧ K0 ≤ 1000000 := by omega
  clear hr hw' hx ha hN hK0
  go_enter Try.func20, Try.ntmps20
  go_wp2_with fail
  refine (Take_g (.slice A pl.length c) pl l k wd N K0 wd' r _ HN.out HK.out HW.out HR.out (sliceAt_of_own h.sl) hH hl hw hk).mono ?_
  rintro e W1 ⟨b1, rfl⟩
  have h1 := h.later b1
  have ha := h1.at_
  rw [← HK.out] at ha
  have a1 := cell_at ha 0
  have af := free_at ha 0
  clear c0 c1 a0 ha
  have hs : wrap64 (K0 + wd') = K0 + wd' := by unfold wrap64; omega
  have h2 := h1.setAt (k' := k + wd)
  have e2 : (((k + wd : Nat)) : Int) = K0 + wd' := by rw [HK.out, HW.out]; omega
  rw [e2] at h2
  have H2 := Lib.hid h2
  clear h2 e2 h1 h
  go_wp2
  go_ret
  exact ⟨rfl, H2.out⟩
theorem or_bit (f : Nat → Bool) (k : Nat) (hk : k < 32) (r : Int) (hr : r = ((f k).toNat : Int)) : Go.bits .or .u32 ((wordF f k).toNat : Int) (IntKind.u32.wrap (r * 2 ^ k)) = ((wordF f (k + 1)).toNat : Int) := by
  have h2 : IntKind.u32.wrap (r * 2 ^ k) = ((if f k then BitVec.twoPow 32 k else 0#32).toNat : Int) := by
    have hp : (2 : Nat) ^ k < 2 ^ 32 := Nat.pow_lt_pow_right (by omega) hk
    cases hf : f k with
    | false =>
      rw [hf] at hr; subst hr
      show IntKind.u32.wrap (0 * 2 ^ k) = 0
      rw [Int.zero_mul]; rfl
    | true =>
      rw [hf] at hr; subst hr
      simp only [if_true, BitVec.toNat_twoPow, Bool.toNat_true, Int.natCast_one, Int.one_mul, Nat.mod_eq_of_lt hp]
      rw [Bv.wrap_small .u32 rfl (Int.pow_nonneg (by omega)) (show (2 : Int) ^ k < (2 : Int) ^ 32 by exact_mod_cast hp)]
      simp
  rw [h2]
  have h3 : Go.bits .or .u32 ((wordF f k).toNat : Int) ((if f k then BitVec.twoPow 32 k else 0#32).toNat : Int) = ((wordF f k ||| (if f k then BitVec.twoPow 32 k else 0#32)).toNat : Int) := Bv.bits_or .u32 rfl (wordF f k) (if f k then BitVec.twoPow 32 k else 0#32)
  rw [h3]
  congr 2
  show _ = (if f k then wordF f k ||| BitVec.twoPow 32 k else wordF f k)
  split <;> simp
theorem num_bit (l : List Bool) (k : Nat) (h : k < l.length) : num ((l.drop k).take 1) = (l.getD k false).toNat := by
  have : (l.drop k).take 1 = [l.getD k false] := by
    apply List.ext_getElem?
    intro i
    match i with
    | 0 => simp [List.getD, List.getElem?_eq_getElem h]
    | i + 1 => rw [List.getElem?_eq_none (by simp; omega), List.getElem?_eq_none (by simp)]
  rw [this]; cases l.getD k false <;> rfl
set_option maxRecDepth 100000 in
theorem row1_c (w : World) (g : Nat) (L : List Value) (v : Value) (pl : List (BitVec 8)) (l : List Bool) (ns ne nc : Nat) (q : Btn) (k n : Nat) (n' : Int) (W : World) (hn' : n' = ((n : Nat) : Int)) (h : TkI w g L v pl l ns ne nc q k W) (hH : Holds pl l) (hl : l.length ≤ 1000000) (hw : n ≤ 32) (hk : k + n ≤ l.length) :
    Calls Try.prog 22 #[.int .i64 n', .pointer (some ⟨g + 1 + 1 + 1, 0, none⟩)] W fun e W' => e = .returned (.int .u32 (wordL (l.drop k) n).toNat) ∧ TkI w g L v pl l ns ne nc q (k + n) W' := by
  subst hn'
  have HH := Lib.hid hH
  have HL := Lib.hid hl
  have HKN := Lib.hid hk
  clear hH hl hk
  go_enter Try.func22, Try.ntmps22
  go_wp2
  go_loopw [3, 6] (fun r i wr => ∃ j : Nat, j ≤ n ∧ i = .int .i64 j ∧ r = .int .u32 (wordL (l.drop k) j).toNat ∧ TkI w g L v pl l ns ne nc q (k + j) wr) (fun _ i _ => n - (intOf i).toNat)
  case atStart => exact ⟨0, Nat.zero_le _, rfl, rfl, h⟩
  case round =>
    obtain ⟨j, hj, rfl, rfl, HI⟩ := hrel
    clear h
    by_cases hlt : j < n
    · have i1 : (j : Int) < (n : Int) := by omega
      have n0 := cell_at HI.nx 0
      have hkn := HKN.out
      obtain ⟨r, hr⟩ : ∃ r : Int, r = (((l.getD (k + j) false).toNat : Nat) : Int) := ⟨_, rfl⟩
      have hor := or_bit (fun i => (l.drop k).getD i false) j (by omega) r (by rw [hr]; simp [List.getD, List.getElem?_drop])
      have hr2 : r = ((num ((l.drop (k + j)).take 1) : Nat) : Int) := by rw [hr, num_bit l (k + j) (by omega)]
      have hrb : 0 ≤ r ∧ r ≤ 1 := by rw [hr]; cases l.getD (k + j) false <;> simp
      have hrw : IntKind.u32.wrap r = r := Bv.wrap_small .u32 rfl hrb.1 (show r < (2 : Int) ^ 32 by omega)
      obtain ⟨z, hz⟩ : ∃ z : Int, z = (((wordL (l.drop k) j).toNat : Nat) : Int) := ⟨_, rfl⟩
      obtain ⟨z', hz'⟩ : ∃ z' : Int, z' = (((wordL (l.drop k) (j + 1)).toNat : Nat) : Int) := ⟨_, rfl⟩
      have hor2 : Go.bits .or .u32 z (r * 2 ^ j % 4294967296) = z' := by rw [hz, hz']; exact hor
      rw [← hz]
      have HZ := Lib.hid hz'
      have HR2 := Lib.hid hr2
      clear hor hr hr2 hz hz' hkn
      go_wp2_with fail
      refine (next_c w g L v pl l ns ne nc q (k + j) 1 1 r _ rfl HR2.out HI HH.out HL.out (by omega) (by have := HKN.out; omega)).mono ?_
      rintro e W1 ⟨rfl, H1⟩
      clear n0 HI
      go_wp2
      go_roundw
      case rel => exact ⟨j + 1, by omega, by go_num, by rw [← HZ.out], H1⟩
      case measure => simp [intOf]; omega
    · obtain rfl : j = n := by omega
      obtain ⟨z, hz⟩ : ∃ z : Int, z = (((wordL (l.drop k) j).toNat : Nat) : Int) := ⟨_, rfl⟩
      rw [← hz]
      have HZ := Lib.hid hz
      clear hz
      go_wp2
      go_ret
      exact ⟨by rw [HZ.out]; rfl, HI⟩
end Go.Proofs.Ytioggdiicgfoaaa
