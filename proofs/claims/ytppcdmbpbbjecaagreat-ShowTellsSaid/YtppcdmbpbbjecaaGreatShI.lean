/- Sections that a route holds: the iterator over them. Nothing that was there is turned but by yield. -/
import Derived.Test.YtppcdmbpbbjecaaGreatShH
namespace Go.Proofs.YtppcdmbpbbjecaaGreat
open Go.RowKit Rf Mem Bv AM
attribute [local go_sem ↓] run_max2 run_min2
attribute [local go_sem] Oper.semAt_some
/-- the sections of the steps from g to k -/
def sp1 (l : List T3) (g k : Nat) : List Int := ((l.take k).drop g).map (·.1)
theorem sp1_succ {l : List T3} {g k : Nat} {x : T3} (hx : l[k]? = some x) (hg : g ≤ k) : sp1 l g (k + 1) = sp1 l g k ++ [x.1] := by
  have hk := (List.getElem?_eq_some_iff.1 hx).1
  unfold sp1
  rw [List.take_add_one, hx, Option.toList_some, List.drop_append_of_le_length (by rw [List.length_take]; omega), List.map_append]; rfl
theorem sp1_low (l : List T3) {g k : Nat} (h : k ≤ g) : sp1 l g k = [] := by
  unfold sp1
  rw [List.map_eq_nil_iff, List.drop_eq_nil_iff, List.length_take]; omega
theorem sp1_all (l : List T3) (g k : Nat) (hk : l.length ≤ k) : sp1 l g k = (l.drop g).map (·.1) := by unfold sp1; rw [List.take_of_length_le hk]
theorem sp1_pre (l : List T3) (g k : Nat) : sp1 l g k <+: (l.drop g).map (·.1) := by
  unfold sp1
  rw [List.drop_take]
  exact (List.take_prefix _ _).map _
theorem pre_at {α : Type} {A B : List α} {x : α} (h : A ++ [x] <+: B) : B[A.length]? = some x := by
  obtain ⟨t, rfl⟩ := h
  simp
/-- numbers as they are handed over -/
def intL (l : List Int) : List (Array Value) := l.map fun z => #[.int .i64 z]
structure SPre (w W : World) (gh : Nat) (cs : List Value) : Prop where
  bel : Below w.heap.size w W
  h : W.heap[gh]? = some (.cells cs.toArray 75 (0, 0))
def SRd (n gh q : Nat) : Prop := q < n ∨ q = gh
theorem SPre.keep {S : Nat → Prop} {w W W' : World} {gh : Nat} {cs : List Value} (h : SPre w W gh cs) (hk : Keep S W W') (hS : ∀ q, SRd w.heap.size gh q → S q) : SPre w W' gh cs :=
  ⟨below_keep h.bel hk (Nat.le_refl _) (fun q hq => hS q (.inl hq)), hk.at_ h.h (hS _ (.inr rfl))⟩
theorem SPre.lt {w W : World} {gh : Nat} {cs : List Value} (h : SPre w W gh cs) {q : Nat} (hq : SRd w.heap.size gh q) : q < W.heap.size := by
  rcases hq with h1 | rfl
  · exact Nat.lt_of_lt_of_le h1 h.bel.size
  · exact lt_at h.h
abbrev zStep : Array Value := #[.int .i64 0, .int .i64 0, .int .i64 0]
theorem t3_size (x : T3) : (Tryz.prog.info? 79).map (·.size) = some (t3V x).length := by kernel_rfl
theorem t3_one (x : T3) : (t3V x).toArray.all (·.oneCell') = true := by simp [t3V, Value.oneCell']
theorem t3_row {W : World} {v : Value} {l : List T3} (h : TAt W v l) {k : Nat} {a : T3} (ha : l[k]? = some a) : ∃ b off c, v = .slice (some ⟨b, off, none⟩) l.length c ∧ W.rangeAt b (off + k * 3) (t3V a) := by
  obtain ⟨b, off, c, hv, x0, x1, x2⟩ := t3_cells h ha
  refine ⟨b, off, c, hv, fun j u hj => ?_⟩
  match j with
  | 0 => cases hj; exact x0
  | 1 => cases hj; exact x1
  | 2 => cases hj; exact x2
  | j + 3 => simp [t3V] at hj
set_option maxHeartbeats 2000000 in
set_option maxRecDepth 100000 in
theorem sections1 (w : World) (cs : List Value) (q : HeldM) (gh : Nat) (hH : HeldAt w cs q) (hl1 : q.steps.length ≤ 5864062014700) (hl2 : q.over.length ≤ 5864062014700) :
    Iter Tryz.prog 133 #[.pointer (some ⟨gh, 0, none⟩)] (fun _ => False) (SRd w.heap.size gh) (intL (secsL q)) (fun W => SPre w W gh cs) := by
  intro lp J O0 W0 hPre hO hJ hY hj0
  have hOg : ∀ q, SRd w.heap.size gh q → ¬ O0 q := fun q hq h => (hO q h).2.2 hq
  obtain ⟨v3, e3, t3⟩ := hH.st
  obtain ⟨v4, e4, t4⟩ := hH.ov
  obtain ⟨A3, c3, rfl⟩ := t3.form
  obtain ⟨A4, c4, rfl⟩ := t4.form
  obtain ⟨ls, hls⟩ : ∃ l, q.steps = l := ⟨_, rfl⟩
  obtain ⟨lo, hlo⟩ : ∃ l, q.over = l := ⟨_, rfl⟩
  obtain ⟨op, hop⟩ : ∃ l, q.opn = l := ⟨_, rfl⟩
  obtain ⟨gz, hgz⟩ : ∃ g, q.gone = g := ⟨_, rfl⟩
  obtain ⟨g, hg⟩ : ∃ g, (max gz 0).toNat = g := ⟨_, rfl⟩
  obtain ⟨sl, hsl⟩ : ∃ s, secsL q = s := ⟨_, rfl⟩
  have hS : sl = (ls.drop g).map (·.1) ++ (if op then [] else lo.map (·.1)) := by rw [← hsl]; unfold secsL; rw [hls, hlo, hop, hgz, hg]
  rw [hls] at t3 e3 hl1
  rw [hlo] at t4 e4 hl2
  rw [hsl] at hY ⊢
  have HE7 := Lib.hid (hgz ▸ hH.gone)
  have HEo := Lib.hid (hop ▸ hH.opn)
  have HS := Lib.hid hS
  have HT3 := Lib.hid t3
  have HT4 := Lib.hid t4
  have HE3 := Lib.hid e3
  have HE4 := Lib.hid e4
  have HG := Lib.hid hg
  have HY := Lib.hid hY
  have HJK := Lib.hid hJ
  have HO0 := Lib.hid hOg
  have x3 := cell_list hPre.h e3
  clear hY hO hJ hOg hH t3 t4 e3 e4 hls hlo hop hgz hsl hS hg
  refine callsIn_of_wp Tryz.func133 rfl trivial ?_ rfl
  simp only [Tryz.ntmps133, List.size_toArray, List.length_cons, List.length_nil, Nat.reduceAdd, Nat.reduceSub, Array.replicate_succ, Array.replicate_zero, List.push_toArray, List.append_toArray, List.nil_append, List.cons_append]
  gi_wp2
  gi_loopw [11] (fun i wr => ∃ (k : Nat) (O : Nat → Prop), k ≤ ls.length ∧ i = .int .i64 k ∧ Hid (J (sp1 ls g k).length O wr) ∧ SPre w wr gh cs ∧ Hid (∀ q, SRd w.heap.size gh q → ¬ O q) ∧ W0.heap.size ≤ wr.heap.size) (fun i _ => ls.length - (intOf i).toNat)
  case atStart => exact ⟨0, O0, Nat.zero_le _, rfl, Lib.hid (by rw [sp1_low ls (Nat.zero_le g)]; exact hj0), hPre, HO0, Nat.le_refl _⟩
  case round =>
    obtain ⟨k, O, hk, rfl, HJ, Mp, HO, hsz⟩ := hrel
    clear x3 hPre
    by_cases hlt : k < ls.length
    · obtain ⟨x, hx⟩ : ∃ x, ls[k]? = some x := ⟨_, List.getElem?_eq_getElem hlt⟩
      obtain ⟨b, off, c', hv, hr⟩ := t3_row (HT3.out.later Mp.bel) hx
      obtain ⟨rfl, hd0, rfl⟩ := Value.slice.inj hv
      clear hd0
      have szS := t3_size x
      obtain ⟨Ws, hWs, k3, k4, k2⟩ := newv (V := wr) (t3V x) zStep 79 rfl
      have szm : (Tryz.prog.info? 79).map (·.size) = some (t3V x).toArray.size := by simpa using szS
      have oneS := t3_one x
      have hk0 : Keep (fun q => q < wr.heap.size) wr Ws := Keep.of_below k4 (fun _ h _ => h)
      have M2 := Mp.keep hk0 (fun q hq => Mp.lt hq)
      have hsz2 : W0.heap.size ≤ Ws.heap.size := Nat.le_trans hsz k4.size
      have hJ2 := HJK.out _ _ _ _ HJ.out (hk0.mono (fun q hq _ => hq))
      have i1 : (k : Int) < (ls.length : Int) := by omega
      have y7 := cell_list M2.h HE7.out
      have y0 : Ws.cell? ⟨wr.heap.size, 0, none⟩ = some (.int .i64 x.1) := by rw [cell_at k3]; rfl
      have HWS := Lib.hid hWs
      have H2 := Lib.hid hJ2
      have HX := Lib.hid hx
      have hprec : gz ≤ (k : Int) → sl[(sp1 ls g k).length]? = some x.1 := fun hge => by
        rw [HS.out]
        refine pre_at ?_
        rw [← sp1_succ hx (by have := HG.out; omega)]
        exact (sp1_pre ls g (k + 1)).trans (List.prefix_append _ _)
      have HPR := Lib.hid hprec
      clear hprec
      obtain ⟨d, hd⟩ : ∃ d, decide (gz ≤ (k : Int)) = d := ⟨_, rfl⟩
      have HNX : Hid ((sp1 ls g (k + 1)).length = if d then (sp1 ls g k).length + 1 else (sp1 ls g k).length) := Lib.hid (by
        cases d with
        | true =>
          have := of_decide_eq_true hd
          rw [sp1_succ hx (by have := HG.out; omega), List.length_append]; rfl
        | false =>
          have := of_decide_eq_false hd
          rw [sp1_low ls (show k + 1 ≤ g by have := HG.out; omega), sp1_low ls (show k ≤ g by have := HG.out; omega)]; rfl)
      generalize t3V x = xv at *
      generalize x.1 = x1 at *
      clear hx hv hWs k4 hJ2 hk0
      cases d
      · gi_wp2_with (first
          | refine wpListIn_load_g rfl 79 (.tmp 14) (by rfl) b (off + k * 3) (by rfl) xv _ hr Tryz.underlying79 rfl szS ?_
          | (refine wpListIn_store_g rfl 79 (.tmp 4) (.tmp 15) (by rfl) wr.heap.size 0 xv.toArray (by rfl) (by rfl) k2 szm oneS ?_; rw [HWS.out]))
        refine ⟨fun f h => (by cases h), ?_⟩
        gi_wp2
        go_roundw
        case rel => exact ⟨k + 1, O, by omega, by go_num, by rw [HNX.out]; exact H2, M2, HO, hsz2⟩
        case measure => simp [intOf]; omega
      · have hyl := HY.out (sp1 ls g k).length #[.int .i64 x1] O Ws (by rw [intL, List.getElem?_map, HPR.out (of_decide_eq_true hd)]; rfl) H2.out hsz2
        obtain ⟨fn, tmps, assign, body, hy, hR⟩ := hyl
        gi_wp2_with (first
          | refine wpListIn_load_g rfl 79 (.tmp 14) (by rfl) b (off + k * 3) (by rfl) xv _ hr Tryz.underlying79 rfl szS ?_
          | (refine wpListIn_store_g rfl 79 (.tmp 4) (.tmp 15) (by rfl) wr.heap.size 0 xv.toArray (by rfl) (by rfl) k2 szm oneS ?_; rw [HWS.out]))
        refine ⟨rfl, hR.mono ?_⟩
        rintro e W' ⟨rfl, O', hJ', ho', hk'⟩
        have M' := M2.keep hk' HO.out
        have hs' := hk'.size
        have HO' := Lib.hid (fun q hq => not_later (HO.out q hq) (M2.lt hq) ho')
        clear hy hR
        gi_wp2
        go_roundw
        case rel => exact ⟨k + 1, O', by omega, by go_num, by rw [HNX.out]; exact Lib.hid hJ', M', HO', by omega⟩
        case measure => simp [intOf]; omega
    · obtain rfl : k = ls.length := by omega
      have HA : Hid (sp1 ls g ls.length = (ls.drop g).map (·.1)) := Lib.hid (sp1_all _ _ _ (Nat.le_refl _))
      obtain ⟨m, hm⟩ : ∃ m, sp1 ls g ls.length = m := ⟨_, rfl⟩
      rw [hm] at HJ HA
      clear hm
      have y4 := cell_list Mp.h HE4.out
      gi_wp2
      gi_loopw [31] (fun i wr => ∃ (k : Nat) (O : Nat → Prop), k ≤ lo.length ∧ i = .int .i64 k ∧ Hid (J (m.length + if op then 0 else k) O wr) ∧ SPre w wr gh cs ∧ Hid (∀ q, SRd w.heap.size gh q → ¬ O q) ∧ W0.heap.size ≤ wr.heap.size) (fun i _ => lo.length - (intOf i).toNat)
      case atStart => exact ⟨0, O, Nat.zero_le _, rfl, by simpa using HJ, Mp, HO, hsz⟩
      case round =>
        clear HJ Mp HO hsz y4 O
        obtain ⟨k, O, hk, rfl, HJ, Mp, HO, hsz⟩ := hrel
        by_cases hlt2 : k < lo.length
        · obtain ⟨x, hx⟩ : ∃ x, lo[k]? = some x := ⟨_, List.getElem?_eq_getElem hlt2⟩
          obtain ⟨b, off, c', hv, hr⟩ := t3_row (HT4.out.later Mp.bel) hx
          obtain ⟨rfl, hd0, rfl⟩ := Value.slice.inj hv
          clear hd0
          have szS := t3_size x
          obtain ⟨Ws, hWs, k3, k4, k2⟩ := newv (V := wr) (t3V x) zStep 79 rfl
          have szm : (Tryz.prog.info? 79).map (·.size) = some (t3V x).toArray.size := by simpa using szS
          have oneS := t3_one x
          have hk0 : Keep (fun q => q < wr.heap.size) wr Ws := Keep.of_below k4 (fun _ h _ => h)
          have M2 := Mp.keep hk0 (fun q hq => Mp.lt hq)
          have hsz2 : W0.heap.size ≤ Ws.heap.size := Nat.le_trans hsz k4.size
          have hJ2 := HJK.out _ _ _ _ HJ.out (hk0.mono (fun q hq _ => hq))
          have i1 : (k : Int) < (lo.length : Int) := by omega
          have y7 := cell_list M2.h HEo.out
          have y0 : Ws.cell? ⟨wr.heap.size, 0, none⟩ = some (.int .i64 x.1) := by rw [cell_at k3]; rfl
          have HWS := Lib.hid hWs
          have H2 := Lib.hid hJ2
          have hprec : op = false → sl[m.length + k]? = some x.1 := fun hop => by
            rw [HS.out, ← HA.out, hop, List.getElem?_append_right (by omega), Nat.add_sub_cancel_left]
            simp [hx]
          have HPR := Lib.hid hprec
          generalize t3V x = xv at *
          generalize x.1 = x1 at *
          clear hprec hx hv hWs k4 hJ2 hk0
          cases op
          · have hyl := HY.out (m.length + k) #[.int .i64 x1] O Ws (by rw [intL, List.getElem?_map, HPR.out rfl]; rfl) (by simpa using H2.out) hsz2
            obtain ⟨fn, tmps, assign, body, hy, hR⟩ := hyl
            gi_wp2_with (first
              | refine wpListIn_load_g rfl 79 (.tmp 33) (by rfl) b (off + k * 3) (by rfl) xv _ hr Tryz.underlying79 rfl szS ?_
              | (refine wpListIn_store_g rfl 79 (.tmp 6) (.tmp 34) (by rfl) wr.heap.size 0 xv.toArray (by rfl) (by rfl) k2 szm oneS ?_; rw [HWS.out]))
            refine ⟨rfl, hR.mono ?_⟩
            rintro e W' ⟨rfl, O', hJ', ho', hk'⟩
            have M' := M2.keep hk' HO.out
            have hs' := hk'.size
            have HO' := Lib.hid (fun q hq => not_later (HO.out q hq) (M2.lt hq) ho')
            clear hy hR
            gi_wp2
            go_roundw
            case rel => exact ⟨k + 1, O', by omega, by go_num, Lib.hid (by simpa [Nat.add_assoc] using hJ'), M', HO', by omega⟩
            case measure => simp [intOf]; omega
          · gi_wp2_with (first
              | refine wpListIn_load_g rfl 79 (.tmp 33) (by rfl) b (off + k * 3) (by rfl) xv _ hr Tryz.underlying79 rfl szS ?_
              | (refine wpListIn_store_g rfl 79 (.tmp 6) (.tmp 34) (by rfl) wr.heap.size 0 xv.toArray (by rfl) (by rfl) k2 szm oneS ?_; rw [HWS.out]))
            refine ⟨fun f h => (by cases h), ?_⟩
            gi_wp2
            go_roundw
            case rel => exact ⟨k + 1, O, by omega, by go_num, H2, M2, HO, hsz2⟩
            case measure => simp [intOf]; omega
        · obtain rfl : k = lo.length := by omega
          gi_wp2
          go_end0
          refine ⟨⟨_, rfl⟩, O, ?_⟩
          have := HJ.out
          rw [intL, List.length_map, HS.out, ← HA.out, List.length_append]
          cases op
          · simpa using this
          · simpa using this
end Go.Proofs.YtppcdmbpbbjecaaGreat
