/- Queues of numbers: contracts of marked and of Keep. Nothing that was there is turned. -/
import Derived.Test.YtdniapakoolbjaaQueE
namespace Go.Proofs.Ytdniapakoolbjaa
open Go.RowKit Rf Mem
attribute [local go_sem ↓] run_max2 run_min2
attribute [local go_sem] Oper.semAt_some
def vblock : Value → Option Nat
  | .slice (some a) _ _ => some a.block
  | _ => none
/-- block q holds elements of the slice v, of n -/
def VB (v : Value) (n q : Nat) : Prop := 0 < n ∧ vblock v = some q
theorem slice_keep {S : Nat → Prop} {W W' : World} {sz n : Nat} {v : Value} {cs : List Value} (h : SliceAt W sz v n cs) (hk : Keep S W W') (hS : ∀ q, VB v n q → S q) : SliceAt W' sz v n cs := by
  obtain ⟨A, c, rfl, h1, h2, h3, h4⟩ := h
  refine ⟨A, c, rfl, h1, h2, h3, ?_⟩
  rcases Nat.eq_zero_or_pos n with h0 | h0
  · exact .inl h0
  rcases h4 with h4 | ⟨b, off, rfl, hlt, hc⟩
  · exact .inl h4
  · exact .inr ⟨b, off, rfl, Nat.lt_of_lt_of_le hlt hk.size, fun i u hu => (World.cell?_of_block (a := ⟨b, off + i, none⟩) (hk.block b hlt (hS b ⟨h0, rfl⟩))).trans (hc i u hu)⟩
theorem vblock_lt {W : World} {sz n : Nat} {v : Value} {cs : List Value} (h : SliceAt W sz v n cs) {q : Nat} (hq : VB v n q) : q < W.heap.size := by
  obtain ⟨hn, hq⟩ := hq
  obtain ⟨b, off, c, rfl, _, _, hlt, _⟩ := h.pos hn
  cases hq; exact hlt
def mark (l : List Bool) (i : Nat) : Bool := l.getD i false
def markV (zs : List Int) (l : List Bool) (i : Nat) : Array Value := #[.int .i64 (zs.getD i 0), .bool (mark l i)]
def markL (zs : List Int) (l : List Bool) : List (Array Value) := (List.range zs.length).map (markV zs l)
theorem markL_length (zs : List Int) (l : List Bool) : (markL zs l).length = zs.length := by simp [markL]
theorem markL_at {zs : List Int} {l : List Bool} {i : Nat} (h : i < zs.length) : (markL zs l)[i]? = some (markV zs l i) := by simp [markL, h]
theorem marked_c (A B : Option Addr) (n m c d : Nat) (w : World) : Calls Try.prog 18 #[.slice A n c, .slice B m d] w fun e W' => e = .returned (.func (.func 20) #[] #[.pointer (some ⟨w.heap.size, 0, none⟩), .pointer (some ⟨w.heap.size + 1, 0, none⟩)]) ∧ (w.alloc (.cells #[.slice A n c] 24)).alloc (.cells #[.slice B m d] 54) = W' := by
  obtain h | h : True ∨ True := .inl trivial
  all_goals
    go_enter Try.func18, Try.ntmps18
    go_wp2
    go_ret
    exact ⟨rfl, rfl⟩
structure MPre (W : World) (g : Nat) (v u : Value) (zs : List Int) (l : List Bool) : Prop where
  x0 : W.heap[g]? = some (.cells #[v] 24 (0, 0))
  x1 : W.heap[g + 1]? = some (.cells #[u] 54 (0, 0))
  s0 : SliceAt W 1 v zs.length (nums zs)
  s1 : SliceAt W 1 u l.length (bools l)
def MRd (g : Nat) (v u : Value) (n m q : Nat) : Prop := q = g ∨ q = g + 1 ∨ VB v n q ∨ VB u m q
theorem MPre.keep {S : Nat → Prop} {W W' : World} {g : Nat} {v u : Value} {zs : List Int} {l : List Bool} (h : MPre W g v u zs l) (hk : Keep S W W') (hS : ∀ q, MRd g v u zs.length l.length q → S q) : MPre W' g v u zs l :=
  ⟨hk.at_ h.x0 (hS _ (.inl rfl)), hk.at_ h.x1 (hS _ (.inr (.inl rfl))), slice_keep h.s0 hk (fun q hq => hS q (.inr (.inr (.inl hq)))), slice_keep h.s1 hk (fun q hq => hS q (.inr (.inr (.inr hq))))⟩
theorem MPre.lt {W : World} {g : Nat} {v u : Value} {zs : List Int} {l : List Bool} (h : MPre W g v u zs l) {q : Nat} (hq : MRd g v u zs.length l.length q) : q < W.heap.size := by
  rcases hq with rfl | rfl | hq | hq
  · exact (Array.getElem?_eq_some_iff.1 h.x0).1
  · exact (Array.getElem?_eq_some_iff.1 h.x1).1
  · exact vblock_lt h.s0 hq
  · exact vblock_lt h.s1 hq
set_option maxHeartbeats 1000000 in
set_option maxRecDepth 100000 in
theorem marked1 (g : Nat) (v u : Value) (zs : List Int) (l : List Bool) (hl : zs.length ≤ 1000) (hl2 : l.length ≤ 1000) :
    Iter Try.prog 20 #[.pointer (some ⟨g, 0, none⟩), .pointer (some ⟨g + 1, 0, none⟩)] (fun _ => False) (MRd g v u zs.length l.length) (markL zs l) (fun W => MPre W g v u zs l) := by
  intro lp J O0 W0 hP hO hJ hY h0
  obtain ⟨A, c, rfl, _⟩ := hP.s0.form
  obtain ⟨B, d, rfl, _⟩ := hP.s1.form
  have hOg : ∀ q, MRd g (.slice A zs.length c) (.slice B l.length d) zs.length l.length q → ¬ O0 q := fun q hq h => (hO q h).2.2 hq
  have HY := Lib.hid hY
  have HO0 := Lib.hid hOg
  have x0 := cell_at hP.x0 0
  clear hY hO hJ hOg
  refine callsIn_of_wp Try.func20 rfl trivial ?_ rfl
  simp only [Try.ntmps20, List.size_toArray, List.length_cons, List.length_nil, Nat.reduceAdd, Nat.reduceSub, Array.replicate_succ, Array.replicate_zero, List.push_toArray, List.append_toArray, List.nil_append, List.cons_append]
  gi_wp2
  gi_loopw [8] (fun i wr => ∃ (k : Nat) (O : Nat → Prop), k ≤ zs.length ∧ i = .int .i64 k ∧ Hid (J k O wr) ∧ MPre wr g (.slice A zs.length c) (.slice B l.length d) zs l ∧ Hid (∀ q, MRd g (.slice A zs.length c) (.slice B l.length d) zs.length l.length q → ¬ O q) ∧ W0.heap.size ≤ wr.heap.size) (fun i _ => zs.length - (intOf i).toNat)
  case atStart => exact ⟨0, O0, Nat.zero_le _, rfl, Lib.hid h0, hP, HO0, Nat.le_refl _⟩
  case round =>
    obtain ⟨k, O, hk, rfl, HJ, M, HO, hsz⟩ := hrel
    clear x0
    by_cases hlt : k < zs.length
    · have hyl := HY.out k _ O wr (markL_at hlt) HJ.out hsz
      obtain ⟨bx, ox, cx, hvx, _, _, hbx, hcx⟩ := M.s0.pos (by omega)
      obtain ⟨rfl, _, rfl⟩ := Value.slice.inj hvx
      have c0 := hcx k _ (nums_get hlt)
      have hgd : zs.getD k 0 = zs[k] := by simp [List.getD, List.getElem?_eq_getElem hlt]
      unfold markV at hyl
      rw [hgd] at hyl
      have x1 := cell_at M.x1 0
      have i1 : (k : Int) < (zs.length : Int) := by omega
      obtain ⟨fn, tmps, assign, body, hy, hR⟩ := hyl
      clear hcx hvx hgd
      generalize zs[k] = z at *
      by_cases hlm : k < l.length
      · obtain ⟨by_, oy, cy, hvy, _, _, hby, hcy⟩ := M.s1.pos (by omega)
        obtain ⟨rfl, _, rfl⟩ := Value.slice.inj hvy
        have c1 := hcy k (.bool l[k]) (by simp [List.getElem?_eq_getElem hlm])
        have hmk : mark l k = l[k] := by simp [mark, List.getD, List.getElem?_eq_getElem hlm]
        rw [hmk] at hy
        have i2 : (k : Int) < (l.length : Int) := by omega
        have i3 : decide ((k : Int) < (l.length : Int)) = true := decide_eq_true i2
        clear hcy hvy hmk
        generalize l[k] = bb at *
        gi_wp2
        refine ⟨rfl, hR.mono ?_⟩
        rintro e W' ⟨rfl, O', hJ', ho', hk'⟩
        have M' := M.keep hk' HO.out
        have hs' := hk'.size
        have HO' := Lib.hid (fun q hq => not_later (HO.out q hq) (M.lt hq) ho')
        clear hy hR c0 c1 x1
        gi_wp2
        go_roundw
        case rel => exact ⟨k + 1, O', by omega, by go_num, Lib.hid hJ', M', HO', by omega⟩
        case measure => simp [intOf]; omega
      · have hmk : mark l k = false := by simp [mark, List.getD, List.getElem?_eq_none (Nat.le_of_not_lt hlm)]
        rw [hmk] at hy
        have i3 : decide ((k : Int) < (l.length : Int)) = false := decide_eq_false (by omega)
        clear hmk
        gi_wp2
        refine ⟨rfl, hR.mono ?_⟩
        rintro e W' ⟨rfl, O', hJ', ho', hk'⟩
        have M' := M.keep hk' HO.out
        have hs' := hk'.size
        have HO' := Lib.hid (fun q hq => not_later (HO.out q hq) (M.lt hq) ho')
        clear hy hR c0 x1
        gi_wp2
        go_roundw
        case rel => exact ⟨k + 1, O', by omega, by go_num, Lib.hid hJ', M', HO', by omega⟩
        case measure => simp [intOf]; omega
    · obtain rfl : k = zs.length := by omega
      gi_wp2
      go_end0
      exact ⟨⟨_, rfl⟩, O, by rw [markL_length]; exact HJ.out⟩
end Go.Proofs.Ytdniapakoolbjaa
