/- Shows: contracts of sections, signals, lamp. Nothing that was there is turned. -/
import Derived.Test.YtppcdmbpbbjecaaGreatAspL
import Derived.Test.YtppcdmbpbbjecaaGreatAspJ
import Derived.Test.YtppcdmbpbbjecaaGreatShM
import Derived.Test.YtppcdmbpbbjecaaGreatHeldF
namespace Go.Proofs.YtppcdmbpbbjecaaGreat
open Go.RowKit Rf Mem Bv AM SM
attribute [local go_sem ↓] run_max2 run_min2
/-- a show's cells -/
def showL (s : ShowM) : List Value := [.int .u32 s.clear.toNat, .int .u32 s.held.toNat, .int .u32 s.normal.toNat, .int .u32 s.reverse.toNat, .int .u32 s.locked.toNat, .int .u32 s.off.toNat, .int .u32 s.steady.toNat, .int .u32 s.flash.toNat, .int .u32 s.autos.toNat, .int .u8 s.code, .int .i64 s.waiting, .int .i64 s.errors]
theorem show_one (s : ShowM) : ∀ u ∈ showL s, u.oneCell' = true := fun u hu => by
  simp only [showL, List.mem_cons, List.not_mem_nil, or_false] at hu
  rcases hu with rfl | rfl | rfl | rfl | rfl | rfl | rfl | rfl | rfl | rfl | rfl | rfl <;> rfl
theorem show_size (s : ShowM) : (Tryz.prog.info? 52).map (·.size) = some (showL s).length := by kernel_rfl
/-- what of a layout is read here: its parts, its sections whole -/
structure LY (W : World) (L : List Value) (kinds : List Int) (ss : List (List Value)) (nsig : Nat) (clr st : Int) (A : Option Addr) (c : Nat) (A1 : Option Addr) (c1 : Nat) : Prop where
  f : LayF L kinds.length nsig clr st A c A1 c1
  sa : SecsAt W (.slice A kinds.length c) kinds
  sl : ss.length = kinds.length
  sr : SecsR W (.slice A ss.length c) ss
theorem LY.later {W W' : World} {L : List Value} {kinds : List Int} {ss : List (List Value)} {nsig : Nat} {clr st : Int} {A : Option Addr} {c : Nat} {A1 : Option Addr} {c1 : Nat} (h : LY W L kinds ss nsig clr st A c A1 c1) (b : Below W.heap.size W W') : LY W' L kinds ss nsig clr st A c A1 c1 := ⟨h.f, h.sa.later b, h.sl, h.sr.later b⟩
theorem LY.cap {W : World} {L : List Value} {kinds : List Int} {ss : List (List Value)} {nsig : Nat} {clr st : Int} {A : Option Addr} {c : Nat} {A1 : Option Addr} {c1 : Nat} (h : LY W L kinds ss nsig clr st A c A1 c1) : kinds.length ≤ c ∧ c ≤ 9223372036854775807 := by
  obtain ⟨A', c', e, h1, h2, _⟩ := h.sa
  obtain ⟨_, _, rfl⟩ := Value.slice.inj e
  exact ⟨h1, by simp [maxLen] at h2; omega⟩
/-- a section's row -/
theorem LY.row {W : World} {L : List Value} {kinds : List Int} {ss : List (List Value)} {nsig : Nat} {clr st : Int} {A : Option Addr} {c : Nat} {A1 : Option Addr} {c1 : Nat} (h : LY W L kinds ss nsig clr st A c A1 c1) {k : Nat} (hk : k < kinds.length) :
    ∃ b off sc, A = some ⟨b, off, none⟩ ∧ b < W.heap.size ∧ W.rangeAt b (off + k * 11) sc ∧ sc.length = 11 ∧ (∀ u ∈ sc, u.oneCell' = true) ∧ sc[0]? = some (.int .u8 (kinds.getD k 0)) := by
  obtain ⟨sc, hsc⟩ : ∃ s, ss[k]? = some s := ⟨_, List.getElem?_eq_getElem (by rw [h.sl]; exact hk)⟩
  obtain ⟨z, hz⟩ : ∃ z, kinds[k]? = some z := ⟨_, List.getElem?_eq_getElem hk⟩
  obtain ⟨A', c', e, _, _, h3, h4⟩ := h.sr
  obtain ⟨rfl, _, rfl⟩ := Value.slice.inj e
  obtain ⟨hl, ho⟩ := h3 sc (List.mem_of_getElem? hsc)
  rcases h4 with h4 | ⟨b, off, rfl, hlt, hr⟩
  · have := h.sl; omega
  obtain ⟨A2, c2, e2, _, _, h5⟩ := h.sa
  obtain ⟨h6, _, _⟩ := Value.slice.inj e2
  rcases h5 with h5 | ⟨b2, off2, h7, _, hc⟩
  · omega
  have hb : b = b2 ∧ off = off2 := by rw [h7] at h6; cases h6; exact ⟨rfl, rfl⟩
  obtain ⟨rfl, rfl⟩ := hb
  refine ⟨b, off, sc, rfl, hlt, hr k sc hsc, hl, ho, ?_⟩
  obtain ⟨u, hu⟩ : ∃ u, sc[0]? = some u := ⟨_, List.getElem?_eq_getElem (by omega)⟩
  have h8 := hr k sc hsc 0 u hu
  have h9 := hc k z hz
  rw [Nat.add_zero, h9] at h8
  rw [hu, ← h8, show kinds.getD k 0 = z by simp [List.getD, hz]]
theorem min_cast (n m : Nat) : min (n : Int) (m : Int) = ((min n m : Nat) : Int) := by omega
set_option maxRecDepth 100000 in
theorem sections_c (L : List Value) (kinds : List Int) (ss : List (List Value)) (nsig : Nat) (clr st : Int) (A : Option Addr) (c : Nat) (A1 : Option Addr) (c1 m : Nat) (w : World) (hm : m = min kinds.length 24) (h : LY w L kinds ss nsig clr st A c A1 c1) :
    Calls Tryz.prog 23 #[.agg L.toArray] w fun e w' => e = .returned (.slice A m c) ∧ Below w.heap.size w w' := by
  have b0 := below_new w (.cells L.toArray 29)
  have x0 := cell_list (new_at (w := w) rfl (.cells L.toArray 29)) h.f.sec
  obtain ⟨hc1, hc2⟩ := h.cap
  obtain ⟨n, hn⟩ : ∃ n, kinds.length = n := ⟨_, rfl⟩
  rw [hn] at hm x0 hc1
  have hmin : min (n : Int) 24 = (m : Int) := by omega
  have i1 : (m : Int) ≤ (c : Int) := by omega
  have i2 : m ≤ c := by omega
  clear h hn hm
  go_enter Tryz.func23, Tryz.ntmps23
  go_wp2
  go_ret
  exact ⟨rfl, b0⟩
set_option maxRecDepth 100000 in
theorem signals_c (L : List Value) (kinds : List Int) (nsig : Nat) (clr st : Int) (A : Option Addr) (c : Nat) (A1 : Option Addr) (c1 m : Nat) (w : World) (hm : m = min nsig 12) (h : LayF L kinds.length nsig clr st A c A1 c1) :
    Calls Tryz.prog 24 #[.agg L.toArray] w fun e w' => e = .returned (.int .i64 m) ∧ Below w.heap.size w w' := by
  have b0 := below_new w (.cells L.toArray 29)
  have x0 := cell_list (new_at (w := w) rfl (.cells L.toArray 29)) h.sig
  have hmin : min (nsig : Int) 12 = (m : Int) := by omega
  clear h hm
  go_enter Tryz.func24, Tryz.ntmps24
  go_wp2
  go_ret
  exact ⟨rfl, b0⟩
theorem bit1_32 (x : BitVec 32) (j : Nat) : Go.bits .and .u32 ((x.toNat : Int) / 2 ^ j) 1 = (bitN x j : Int) := by
  have h1 : ((x.toNat : Int) / 2 ^ j) = ((x >>> j).toNat : Int) := Bv.shr_bv x j
  have h2 : Go.bits .and .u32 (((x >>> j) : BitVec 32).toNat : Int) 1 = ((((x >>> j) &&& 1#32 : BitVec 32)).toNat : Int) := Bv.bits_and .u32 rfl (x >>> j) 1#32
  rw [h1, h2, BitVec.toNat_and, show (1#32 : BitVec 32).toNat = 1 from rfl, Nat.and_one_is_mod, bitN]
  have h3 : x.getLsbD j = (x >>> j).getLsbD 0 := by simp [BitVec.getLsbD_ushiftRight]
  rw [h3, BitVec.getLsbD, Nat.testBit_zero]
  rcases Nat.mod_two_eq_zero_or_one (x >>> j).toNat with e | e <;> rw [e] <;> rfl
theorem bitN_le (x : BitVec 32) (j : Nat) : bitN x j ≤ 1 := by unfold bitN; cases x.getLsbD j <;> decide
theorem lamp_eq (a b : BitVec 32) (i : Nat) : lampN a b i = if bitN b i < bitN a i then 1 else if bitN a i < bitN b i then 2 else 0 := by
  unfold lampN bitN; cases a.getLsbD i <;> cases b.getLsbD i <;> rfl
set_option maxHeartbeats 1000000 in
set_option maxRecDepth 100000 in
theorem lamp_c (a b : BitVec 32) (i : Nat) (r : Int) (w : World) (hi : i < 32) (hr : r = (lampN a b i : Int)) :
    Calls Tryz.prog 90 #[.int .u32 a.toNat, .int .u32 b.toNat, .int .i64 i] w fun e w' => e = .returned (.int .i64 r) ∧ Below w.heap.size w w' := by
  have i1 : (0 : Int) ≤ (i : Int) := by omega
  have i2 : (i : Int) < 32 := by omega
  have ha := bit1_32 a i
  have hb := bit1_32 b i
  have la := bitN_le a i
  have lb := bitN_le b i
  rw [lamp_eq] at hr
  generalize bitN a i = x at *
  generalize bitN b i = y at *
  have HR := Lib.hid hr
  clear hr
  have fin : ∀ v : Int, v = (if y < x then 1 else if x < y then 2 else 0) → v = r := fun v hv => by rw [hv, HR.out]; split <;> (try split) <;> rfl
  by_cases h1 : y < x
  · have t1 : decide ((y : Int) < (x : Int)) = true := decide_eq_true (by omega)
    have t2 : decide (y < x) = true := decide_eq_true h1
    have HE := Lib.hid (fin 1 (by rw [if_pos h1]))
    clear fin
    go_enter Tryz.func90, Tryz.ntmps90
    go_upto_region 1 with (fail)
    go_quiet (fail)
    go_wp2
    go_ret
    exact ⟨by rw [← HE.out]; rfl, below_drewN (Below.refl _ _) _⟩
  · have t1 : decide ((y : Int) < (x : Int)) = false := decide_eq_false (by omega)
    have t2 : decide (y < x) = false := decide_eq_false h1
    by_cases h2 : x < y
    · have t3 : decide ((x : Int) < (y : Int)) = true := decide_eq_true (by omega)
      have t4 : decide (x < y) = true := decide_eq_true h2
      have HE := Lib.hid (fin 2 (by rw [if_neg h1, if_pos h2]))
      clear fin
      go_enter Tryz.func90, Tryz.ntmps90
      go_upto_region 1 with (fail)
      go_quiet (fail)
      go_wp2
      go_ret
      exact ⟨by rw [← HE.out]; rfl, below_drewN (Below.refl _ _) _⟩
    · have t3 : decide ((x : Int) < (y : Int)) = false := decide_eq_false (by omega)
      have t4 : decide (x < y) = false := decide_eq_false h2
      have HE := Lib.hid (fin 0 (by rw [if_neg h1, if_neg h2]))
      clear fin
      go_enter Tryz.func90, Tryz.ntmps90
      go_upto_region 1 with (fail)
      go_quiet (fail)
      go_wp2
      go_ret
      exact ⟨by rw [← HE.out]; rfl, below_drewN (Below.refl _ _) _⟩
theorem fields_c (L S : List Value) (w : World) : Calls Tryz.prog 59 #[.agg L.toArray, .agg S.toArray] w fun e W' => e = .returned (.func (.func 88) #[] #[.pointer (some ⟨w.heap.size, 0, none⟩), .pointer (some ⟨w.heap.size + 1, 0, none⟩)]) ∧ (w.alloc (.cells L.toArray 29)).alloc (.cells S.toArray 52) = W' := by
  obtain h | h : True ∨ True := .inl trivial
  all_goals
    go_enter Tryz.func59, Tryz.ntmps59
    go_wp2
    go_ret
    exact ⟨rfl, rfl⟩
end Go.Proofs.YtppcdmbpbbjecaaGreat
