/- Frames: the iterator over a frame's bytes. -/
import Derived.Test.YtkjmbnficdilhaaFrmB
import Derived.BigFrameIn
namespace Go.Proofs.Ytkjmbnficdilhaa
open Go.RowKit Rf Mem Bv Crc Str
attribute [local go_sem ↓] run_max2 run_min2
attribute [local go_sem] Oper.semAt_some
/-- a frame's bytes but for its sum -/
def hb (k s : BitVec 8) (p : List (BitVec 8)) : List (BitVec 8) := k :: s :: BitVec.ofNat 8 p.length :: p
def byteList (l : List (BitVec 8)) : List (Array Value) := l.map fun b => #[.int .u8 (b.toNat : Int)]
/-- the block that a slice lies in -/
def vblock : Value → Option Nat
  | .slice (some a) _ _ => some a.block
  | _ => none
/-- block q holds elements of the slice v, of n -/
def VB (v : Value) (n q : Nat) : Prop := 0 < n ∧ vblock v = some q
theorem slice_keep {S : Nat → Prop} {W W' : World} {sz n : Nat} {v : Value} {cs : List Value} (h : SliceAt W sz v n cs) (hk : Keep S W W') (hS : ∀ q, VB v n q → S q) : SliceAt W' sz v n cs := by
  obtain ⟨A, c, rfl, h1, h2, h3, h4⟩ := h
  refine ⟨A, c, rfl, h1, h2, h3, ?_⟩
  rcases Nat.eq_zero_or_pos n with h0 | h0
  · exact .inl h0
  rcases h4 with h4 | ⟨b, off, rfl, hlt, hc⟩
  · exact .inl h4
  · exact .inr ⟨b, off, rfl, Nat.lt_of_lt_of_le hlt hk.size, fun i u hu => (World.cell?_of_block (a := ⟨b, off + i, none⟩) (hk.block b hlt (hS b ⟨h0, rfl⟩))).trans (hc i u hu)⟩
theorem vblock_lt {W : World} {sz n : Nat} {v : Value} {cs : List Value} (h : SliceAt W sz v n cs) {q : Nat} (hq : VB v n q) : q < W.heap.size := by
  obtain ⟨hn, hq⟩ := hq
  obtain ⟨b, off, c, rfl, _, _, hlt, _⟩ := h.pos hn
  cases hq; exact hlt
theorem FVar.keep {S : Nat → Prop} {W W' : World} {g : Nat} {k s : Int} {v : Value} {p : List (BitVec 8)} (h : FVar W g k s v p) (hk : Keep S W W') (hg : S g) (hS : ∀ q, VB v p.length q → S q) : FVar W' g k s v p :=
  ⟨hk.at_ h.at_ hg, slice_keep h.sl hk hS⟩
theorem not_later {O O' : Nat → Prop} {W : World} {q : Nat} (h : ¬ O q) (hq : q < W.heap.size) (ho : ∀ k, O' k → O k ∨ W.heap.size ≤ k) : ¬ O' q := fun hO => by
  rcases ho q hO with h1 | h1
  · exact h h1
  · omega
set_option maxHeartbeats 1000000 in
set_option maxRecDepth 100000 in
theorem all1 (g : Nat) (k s : BitVec 8) (v : Value) (p : List (BitVec 8)) (hp : p.length ≤ 255) :
    Iter Try.prog 27 #[.pointer (some ⟨g, 0, none⟩)] (fun _ => False) (fun q => q = g ∨ VB v p.length q) (byteList (hb k s p)) (fun W => FVar W g k.toNat s.toNat v p ∧ ∀ q, VB v p.length q → q < W.heap.size) := by
  intro l J O0 W0 hP hO hJ hY h0
  obtain ⟨V0, hvb⟩ := hP
  have hg0 : g < W0.heap.size := (Array.getElem?_eq_some_iff.1 V0.at_).1
  have hOg : ¬ O0 g := fun h => (hO g h).2.2 (.inl rfl)
  have hOv : ∀ q, VB v p.length q → ¬ O0 q := fun q hq h => (hO q h).2.2 (.inr hq)
  obtain ⟨A, c, rfl, _⟩ := V0.sl.form
  have x0 := V0.c0
  have x1 := V0.c1
  have x2 := V0.c2
  have HO := Lib.hid hOg
  have HV := Lib.hid hOv
  have HB := Lib.hid hvb
  have hq1 : (byteList (hb k s p))[0]? = some #[.int .u8 (k.toNat : Int)] := rfl
  have hq2 : (byteList (hb k s p))[1]? = some #[.int .u8 (s.toNat : Int)] := rfl
  have hq3 : (byteList (hb k s p))[2]? = some #[.int .u8 (p.length : Int)] := by
    have : (byteList (hb k s p))[2]? = some #[.int .u8 ((BitVec.ofNat 8 p.length).toNat : Int)] := rfl
    rw [this, BitVec.toNat_ofNat]; congr 4; omega
  have hq4 : ∀ i, (byteList (hb k s p))[3 + i]? = (p[i]?).map fun b => #[.int .u8 (b.toNat : Int)] := fun i => by
    unfold byteList hb; rw [List.getElem?_map, show 3 + i = i + 3 by omega]; rfl
  have HQ2 := Lib.hid hq2
  have HQ3 := Lib.hid hq3
  have HQ4 := Lib.hid hq4
  have hw8 : IntKind.u8.wrap (p.length : Int) = (p.length : Int) := Bv.wrap_small .u8 rfl (by omega) (by simp [IntKind.bits]; omega)
  obtain ⟨fn, tmps, assign, body, hy, hR⟩ := hY 0 _ O0 W0 hq1 h0 (Nat.le_refl _)
  clear hOg hOv hvb hq2 hq3 hq4 hq1
  refine callsIn_of_wp Try.func27 rfl trivial ?_ rfl
  simp only [Try.ntmps27, List.size_toArray, List.length_cons, List.length_nil, Nat.reduceAdd, Nat.reduceSub, Array.replicate_succ, Array.replicate_zero, List.push_toArray, List.append_toArray, List.nil_append, List.cons_append]
  gi_wp2
  refine ⟨rfl, hR.mono ?_⟩
  rintro e W1 ⟨rfl, O1, hJ1, ho1, hk1⟩
  clear hy hR x0 x1 x2
  have V1 := V0.keep hk1 HO.out HV.out
  have hOg1 : ¬ O1 g := not_later HO.out hg0 ho1
  have hOv1 : ∀ q, VB (.slice A p.length c) p.length q → ¬ O1 q := fun q hq => not_later (HV.out q hq) (HB.out q hq) ho1
  have hs1 := hk1.size
  have x0 := V1.c0
  have x1 := V1.c1
  have x2 := V1.c2
  obtain ⟨fn, tmps, assign, body, hy, hR⟩ := hY 1 _ O1 W1 HQ2.out hJ1 hs1
  have HO1 := Lib.hid hOg1
  have HV1 := Lib.hid hOv1
  clear hOg1 hOv1
  gi_wp2
  refine ⟨rfl, hR.mono ?_⟩
  rintro e W2 ⟨rfl, O2, hJ2, ho2, hk2⟩
  clear hy hR x0 x1 x2
  have V2 := V1.keep hk2 HO1.out HV1.out
  have hs2 := Nat.le_trans hs1 hk2.size
  have hOg2 : ¬ O2 g := not_later HO1.out (by omega) ho2
  have hOv2 : ∀ q, VB (.slice A p.length c) p.length q → ¬ O2 q := fun q hq => not_later (HV1.out q hq) (Nat.lt_of_lt_of_le (HB.out q hq) hs1) ho2
  have x0 := V2.c0
  have x1 := V2.c1
  have x2 := V2.c2
  obtain ⟨fn, tmps, assign, body, hy, hR⟩ := hY 2 _ O2 W2 HQ3.out hJ2 hs2
  have HO2 := Lib.hid hOg2
  have HV2 := Lib.hid hOv2
  clear hOg2 hOv2
  gi_wp2
  refine ⟨rfl, hR.mono ?_⟩
  rintro e W3 ⟨rfl, O3, hJ3, ho3, hk3⟩
  clear hy hR x0 x1 x2
  have V3 := V2.keep hk3 HO2.out HV2.out
  have hs3 := Nat.le_trans hs2 hk3.size
  have hOg3 : ¬ O3 g := not_later HO2.out (by omega) ho3
  have hOv3 : ∀ q, VB (.slice A p.length c) p.length q → ¬ O3 q := fun q hq => not_later (HV2.out q hq) (Nat.lt_of_lt_of_le (HB.out q hq) hs2) ho3
  have x0 := V3.c0
  have x1 := V3.c1
  have x2 := V3.c2
  have HO3 := Lib.hid hOg3
  have HV3 := Lib.hid hOv3
  clear hOg3 hOv3
  gi_wp2
  gi_loopw [29] (fun i wr => ∃ (n : Nat) (O : Nat → Prop), n ≤ p.length ∧ i = .int .i64 n ∧ J (3 + n) O wr ∧ FVar wr g k.toNat s.toNat (.slice A p.length c) p ∧ Hid (¬ O g) ∧ Hid (∀ q, VB (.slice A p.length c) p.length q → ¬ O q) ∧ W0.heap.size ≤ wr.heap.size) (fun i _ => p.length - (intOf i).toNat)
  case atStart => exact ⟨0, O3, Nat.zero_le _, rfl, hJ3, V3, HO3, HV3, hs3⟩
  case round =>
    obtain ⟨n, O, hn, rfl, hJn, Vn, HOn, HVn, hsn⟩ := hrel
    clear x0 x1 x2 V0 V1 V2 V3
    by_cases hlt : n < p.length
    · obtain ⟨ba, oa, ca, hva, _, _, hba, hca⟩ := Vn.sl.pos (by omega)
      obtain ⟨rfl, _, rfl⟩ := Value.slice.inj hva
      have hpn : p[n]? = some p[n] := List.getElem?_eq_getElem hlt
      have cx := hca n (.int .u8 (p[n].toNat : Int)) (by simp [u8s, hpn])
      have hq := HQ4.out n
      rw [hpn, Option.map_some] at hq
      generalize p[n] = b at *
      obtain ⟨fn, tmps, assign, body, hy, hR⟩ := hY (3 + n) _ O wr hq hJn hsn
      clear hca hva hpn hq
      gi_wp2
      refine ⟨rfl, hR.mono ?_⟩
      rintro e W' ⟨rfl, O', hJ', ho', hk'⟩
      clear hy hR
      gi_wp2
      go_roundw
      case rel =>
        refine ⟨n + 1, O', by omega, by go_num, hJ', Vn.keep hk' HOn.out HVn.out, Lib.hid (not_later HOn.out (by omega) ho'), Lib.hid (fun q hq => not_later (HVn.out q hq) (Nat.lt_of_lt_of_le (HB.out q hq) hsn) ho'), Nat.le_trans hsn hk'.size⟩
      case measure => simp [intOf]; omega
    · obtain rfl : n = p.length := by omega
      have hl : (byteList (hb k s p)).length = 3 + p.length := by simp [byteList, hb]; omega
      have HL := Lib.hid hl
      clear hl
      gi_wp2
      go_end0
      exact ⟨⟨_, rfl⟩, O, by rw [HL.out]; exact hJn⟩
end Go.Proofs.Ytkjmbnficdilhaa
