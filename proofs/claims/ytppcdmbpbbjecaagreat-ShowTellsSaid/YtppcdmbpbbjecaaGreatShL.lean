/- Who holds a section: the iterator over routes, its first; the contract of Holder. Nothing that was there is turned. -/
import Derived.Test.YtppcdmbpbbjecaaGreatShK
import Derived.Test.YtppcdmbpbbjecaaGreatRfC
namespace Go.Proofs.YtppcdmbpbbjecaaGreat
open Go.RowKit Rf Mem Bv AM
attribute [local go_sem ↓] run_max2 run_min2
attribute [local go_sem] Oper.semAt_some
structure HPre (w W : World) (gk gs : Nat) (K : List Value) (s : Int) : Prop where
  bel : Below w.heap.size w W
  k : W.heap[gk]? = some (.cells K.toArray 41 (0, 0))
  s : W.heap[gs]? = some (.cells #[.int .i64 s] 3 (0, 0))
theorem HPre.later {w W W' : World} {gk gs : Nat} {K : List Value} {s : Int} (h : HPre w W gk gs K s) (b : Below W.heap.size W W') : HPre w W' gk gs K s := ⟨below_step h.bel b, var_later h.k b, var_later h.s b⟩
/-- the first of some that is so -/
def FirstAt (hs : List HeldM) (P : HeldM → Bool) (x : Option Nat) : Prop :=
  (x = none ∧ ∀ h ∈ hs, P h = false) ∨ (∃ k h, x = some k ∧ hs[k]? = some h ∧ P h = true ∧ ∀ j h', j < k → hs[j]? = some h' → P h' = false)
theorem firstAt_none {hs : List HeldM} {P : HeldM → Bool} {x : Option Nat} (h : FirstAt hs P x) (ha : ∀ j h', j < hs.length → hs[j]? = some h' → P h' = false) : x = none := by
  rcases h with ⟨rfl, _⟩ | ⟨k, q, rfl, h1, h2, _⟩
  · rfl
  · have := ha k q (List.getElem?_eq_some_iff.1 h1).1 h1
    rw [h2] at this; cases this
theorem firstAt_some {hs : List HeldM} {P : HeldM → Bool} {x : Option Nat} (h : FirstAt hs P x) {k : Nat} {q : HeldM} (hk : hs[k]? = some q) (hp : P q = true) (ha : ∀ j h', j < k → hs[j]? = some h' → P h' = false) : x = some k := by
  rcases h with ⟨rfl, hn⟩ | ⟨k', q', rfl, h1, h2, h3⟩
  · have := hn q (List.mem_of_getElem? hk)
    rw [hp] at this; cases this
  · congr 1
    rcases Nat.lt_trichotomy k k' with h | h | h
    · have := h3 k q h hk; rw [hp] at this; cases this
    · exact h.symm
    · have := ha k' q' h h1; rw [h2] at this; cases this
theorem firstAt_ex (hs : List HeldM) (P : HeldM → Bool) : ∃ x, FirstAt hs P x := by
  induction hs with
  | nil => exact ⟨none, .inl ⟨rfl, fun h hh => by cases hh⟩⟩
  | cons a r ih =>
    obtain ⟨x, hx⟩ := ih
    cases ha : P a with
    | true => exact ⟨some 0, .inr ⟨0, a, rfl, rfl, ha, fun j h' hj => by omega⟩⟩
    | false =>
      rcases hx with ⟨rfl, hn⟩ | ⟨k, q, rfl, h1, h2, h3⟩
      · refine ⟨none, .inl ⟨rfl, fun h hh => ?_⟩⟩
        rcases List.mem_cons.1 hh with rfl | hh
        · exact ha
        · exact hn h hh
      · refine ⟨some (k + 1), .inr ⟨k + 1, q, rfl, by simpa using h1, h2, fun j h' hj hjj => ?_⟩⟩
        match j with
        | 0 => cases hjj; exact ha
        | j + 1 => exact h3 j h' (by omega) (by simpa using hjj)
theorem firstAt_find {hs : List HeldM} {P : HeldM → Bool} {x : Option Nat} (h : FirstAt hs P x) : hs.find? P = x.bind fun k => hs[k]? := by
  rcases h with ⟨rfl, hn⟩ | ⟨k, q, rfl, h1, h2, h3⟩
  · show _ = none
    rw [List.find?_eq_none]; intro a ha; rw [hn a ha]; simp
  · show _ = hs[k]?
    rw [h1, List.find?_eq_some_iff_getElem]
    obtain ⟨hlt, he⟩ := List.getElem?_eq_some_iff.1 h1
    refine ⟨h2, k, hlt, he, fun j hj => ?_⟩
    rw [h3 j _ hj (List.getElem?_eq_getElem (by omega))]; rfl
set_option maxHeartbeats 2000000 in
set_option maxRecDepth 100000 in
theorem holders1 (w : World) (K : List Value) (vh : Value) (css : List (List Value)) (hs : List HeldM) (nx : Int) (ms : List (Int × Int × Bool)) (gk gs : Nat) (s : Int) (x : Option Nat) (hx : FirstAt hs (fun h => hasB h s) x) (hK : KerAt w K vh css hs nx ms) (hlen : hs.length ≤ 5864062014700)
    (hsm : ∀ h ∈ hs, h.needs.length ≤ 5864062014700 ∧ h.steps.length ≤ 5864062014700 ∧ h.over.length ≤ 5864062014700) :
    FirstIt Tryz.prog 102 #[.pointer (some ⟨gk, 0, none⟩), .pointer (some ⟨gs, 0, none⟩)] (x.map fun k => #[.agg (css.getD k []).toArray]) (fun W => HPre w W gk gs K s) := by
  intro lp J J1 W0 hPre hJ hJ1 hY hj0
  have hll := hK.hs.len
  have HY := Lib.hid hY
  have HJK := Lib.hid hJ
  have HKA := Lib.hid hK
  have HX := Lib.hid hx
  have x0 := cell_list hPre.k hK.held
  obtain ⟨Ah, ch, rfl, _⟩ := hK.hs.sl.form
  obtain ⟨n, hn⟩ : ∃ n, css.length = n := ⟨_, rfl⟩
  have HN := Lib.hid hn
  have hn1 : n ≤ 5864062014700 := by omega
  rw [hn] at x0
  have HS1 := Lib.hid hJ1
  clear hY hJ hK hx hJ1
  refine callsIn_of_wp Tryz.func102 rfl trivial ?_ rfl
  simp only [Tryz.ntmps102, List.size_toArray, List.length_cons, List.length_nil, Nat.reduceAdd, Nat.reduceSub, Array.replicate_succ, Array.replicate_zero, List.push_toArray, List.append_toArray, List.nil_append, List.cons_append]
  gi_wp2
  gi_loopw [9] (fun i wr => ∃ (k : Nat), k ≤ n ∧ i = .int .i64 k ∧ Hid (J wr) ∧ HPre w wr gk gs K s ∧ Below W0.heap.size W0 wr ∧ Hid (∀ j h', j < k → hs[j]? = some h' → hasB h' s = false)) (fun i _ => n - (intOf i).toNat)
  case atStart => exact ⟨0, Nat.zero_le _, rfl, Lib.hid hj0, hPre, Below.refl _ _, Lib.hid (fun j h' hj => by omega)⟩
  case round =>
    obtain ⟨k, hk, rfl, HJ, Mp, hB, HF⟩ := hrel
    clear x0 hPre
    by_cases hlt : k < n
    · obtain ⟨cs, hcs⟩ : ∃ s, css[k]? = some s := ⟨_, List.getElem?_eq_getElem (by omega)⟩
      obtain ⟨q, hq⟩ : ∃ s, hs[k]? = some s := ⟨_, List.getElem?_eq_getElem (by omega)⟩
      have hKr := HKA.out.later Mp.bel
      obtain ⟨b, off, c', hv, hr⟩ := hKr.hs.row hcs
      have hHq := hKr.hs.at_ k cs q hcs hq
      obtain ⟨rfl, hd0, rfl⟩ := Value.slice.inj hv
      clear hd0
      have szS := held_size hHq.len
      obtain ⟨Ws, hWs, k3, k4, k2⟩ := newv (V := wr) cs zHeld 75 (by rw [hHq.len]; rfl)
      have szm : (Tryz.prog.info? 75).map (·.size) = some cs.toArray.size := by simpa using szS
      have oneS : cs.toArray.all (·.oneCell') = true := all_one hHq.one
      have hgd : css.getD k [] = cs := by simp [List.getD, hcs]
      have hHq2 := hHq.later k4
      have M2 := Mp.later k4
      have hB2 := below_step hB k4
      have i1 : (k : Int) < (n : Int) := by omega
      obtain ⟨r, hr0⟩ : ∃ r, hasB q s = r := ⟨_, rfl⟩
      have HR := Lib.hid hr0
      obtain ⟨s1, s2, s3⟩ := hsm q (List.mem_of_getElem? hq)
      have RS := range_of k3
      have y2 := cell_at M2.s 0
      have HWS := Lib.hid hWs
      have HGD := Lib.hid hgd
      have H2 := Lib.hid (HJK.out _ _ HJ.out k4)
      have HCS := Lib.hid hcs
      have HQ := Lib.hid hq
      clear hWs k4 hgd hcs hq hv hr0 hHq hKr hn HJ Mp hB
      gi_wp2_with (first
        | refine wpListIn_load_g rfl 75 (.tmp 11) (by rfl) b (off + k * 23) (by rfl) cs _ hr Tryz.underlying75 rfl szS ?_
        | (refine wpListIn_store_g rfl 75 (.tmp 5) (.tmp 12) (by rfl) wr.heap.size 0 cs.toArray (by rfl) (by rfl) k2 szm oneS ?_; rw [HWS.out])
        | refine wpListIn_load_g rfl 75 (.tmp 5) (by rfl) wr.heap.size 0 (by rfl) cs _ RS Tryz.underlying75 rfl szS ?_)
      refine ⟨trivial, rfl, (callsIn_wide.2 (Has_c cs q s r _ HR.out.symm hHq2 s2 s3)).mono ?_⟩
      rintro e W3 ⟨rfl, b3⟩
      have M3 := M2.later b3
      have hB3 := below_step hB2 b3
      have H3 := Lib.hid (HJK.out _ _ H2.out b3)
      have RS3 := range_of (var_later k3 b3)
      clear RS hr k2 szm oneS hHq2 k3 b3 M2 hB2 H2 y2
      cases r
      · clear RS3
        gi_wp2
        refine ⟨fun f h => (by cases h), ?_⟩
        gi_wp2
        go_roundw
        case rel =>
          refine ⟨k + 1, by omega, by go_num, H3, M3, hB3, Lib.hid (fun j h' hj hh => ?_)⟩
          rcases Nat.lt_or_eq_of_le (Nat.lt_succ_iff.1 hj) with h | rfl
          · exact HF.out j h' h hh
          · rw [HQ.out] at hh; cases hh; exact HR.out
        case measure => simp [intOf]; omega
      · have hxk := firstAt_some HX.out HQ.out HR.out HF.out
        have hyl := HY.out #[.agg cs.toArray] W3 (by rw [hxk, Option.map_some, HGD.out]) H3.out hB3
        obtain ⟨fn, tmps, assign, body, hy, hR⟩ := hyl
        have HXK := Lib.hid hxk
        clear hxk
        gi_wp2_with (first
          | refine wpListIn_load_w (by rfl) 75 (.tmp 5) (by rfl) wr.heap.size 0 (by rfl) cs _ RS3 Tryz.underlying75 rfl szS ?_)
        refine ⟨rfl, hR.mono ?_⟩
        rintro e W' ⟨rfl, hJ'⟩
        clear hy hR RS3
        have HJ' := Lib.hid hJ'
        clear hJ'
        gi_wp2
        refine bodyPost_ret (results_none rfl _ _ _) rfl ?_
        exact ⟨⟨_, rfl⟩, .inr ⟨by rw [HXK.out]; rfl, HJ'.out⟩⟩
    · obtain rfl : k = n := by omega
      gi_wp2
      go_end0
      exact ⟨⟨_, rfl⟩, .inl ⟨by rw [firstAt_none HX.out (fun j h' hj hh => HF.out j h' (by omega) hh)]; rfl, HJ.out⟩⟩
end Go.Proofs.YtppcdmbpbbjecaaGreat
