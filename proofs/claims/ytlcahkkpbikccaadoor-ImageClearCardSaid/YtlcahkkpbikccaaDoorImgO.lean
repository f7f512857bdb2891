/- Layouts: the contract of the sections' iterator. Nothing that was there is turned. -/
import Derived.Test.YtlcahkkpbikccaaDoorImgN
import Derived.Test.YtlcahkkpbikccaaDoorRnd
import Derived.BigFrameIn
namespace Go.Proofs.YtlcahkkpbikccaaDoor
open Go.RowKit Rf Mem
attribute [local go_sem ↓] run_max2 run_min2
attribute [local go_sem] Oper.semAt_some
theorem not_later {O O' : Nat → Prop} {W : World} {q : Nat} (h : ¬ O q) (hq : q < W.heap.size) (ho : ∀ k, O' k → O k ∨ W.heap.size ≤ k) : ¬ O' q := fun hO => by
  rcases ho q hO with h1 | h1
  · exact h h1
  · omega
/-- a row of whole sections reads -/
def SecsR (W : World) (v : Value) (ss : List (List Value)) : Prop :=
  ∃ A c, v = .slice A ss.length c ∧ ss.length ≤ c ∧ c ≤ maxLen ∧ (∀ s ∈ ss, s.length = 11 ∧ ∀ u ∈ s, u.oneCell' = true) ∧ (ss.length = 0 ∨ ∃ b off, A = some ⟨b, off, none⟩ ∧ b < W.heap.size ∧ ∀ (k : Nat) (s : List Value), ss[k]? = some s → W.rangeAt b (off + k * 11) s)
theorem range_below {W W' : World} {b o B : Nat} {cs : List Value} (h : W.rangeAt b o cs) (hb : Below B W W') (hB : b < B) : W'.rangeAt b o cs := fun j v hv => (hb.cell (p := ⟨b, o + j, none⟩) hB).trans (h j v hv)
theorem range_keep {S : Nat → Prop} {W W' : World} {b o : Nat} {cs : List Value} (h : W.rangeAt b o cs) (hk : Keep S W W') (hb : b < W.heap.size) (hS : S b) : W'.rangeAt b o cs := fun j v hv => (World.cell?_of_block (hk.block b hb hS)).trans (h j v hv)
theorem SecsR.later {W W' : World} {v : Value} {ss : List (List Value)} (h : SecsR W v ss) (hb : Below W.heap.size W W') : SecsR W' v ss := by
  obtain ⟨A, c, rfl, h1, h2, h3, h4⟩ := h
  refine ⟨A, c, rfl, h1, h2, h3, h4.imp id ?_⟩
  rintro ⟨b, off, rfl, hlt, hc⟩
  exact ⟨b, off, rfl, Nat.lt_of_lt_of_le hlt hb.size, fun k s hk => range_below (hc k s hk) hb hlt⟩
/-- a section, as the iterator hands it over -/
def secV (ss : List (List Value)) (k : Nat) : Array Value := #[.int .i64 k, .agg (ss.getD k []).toArray]
def secL (ss : List (List Value)) : List (Array Value) := (List.range (min ss.length 24)).map (secV ss)
theorem secL_length (ss : List (List Value)) : (secL ss).length = min ss.length 24 := by simp [secL]
theorem secL_at {ss : List (List Value)} {k : Nat} (h : k < min ss.length 24) : (secL ss)[k]? = some (secV ss k) := by simp [secL, h]
theorem sections_c (L : List Value) (w : World) : Calls Tryd.prog 25 #[.agg L.toArray] w fun e W' => e = .returned (.func (.func 31) #[] #[.pointer (some ⟨w.heap.size, 0, none⟩)]) ∧ w.alloc (.cells L.toArray 29) = W' := by
  go_enter Tryd.func25, Tryd.ntmps25
  go_wp2
  go_ret
  exact ⟨rfl, rfl⟩
structure SPre (W : World) (g : Nat) (L : List Value) (b off : Nat) (ss : List (List Value)) : Prop where
  x0 : W.heap[g]? = some (.cells L.toArray 29 (0, 0))
  rows : ∀ (k : Nat) (s : List Value), ss[k]? = some s → b < W.heap.size ∧ W.rangeAt b (off + k * 11) s
def SRd (g b n q : Nat) : Prop := q = g ∨ (0 < n ∧ q = b)
theorem SPre.keep {S : Nat → Prop} {W W' : World} {g b off : Nat} {L : List Value} {ss : List (List Value)} (h : SPre W g L b off ss) (hk : Keep S W W') (hS : ∀ q, SRd g b ss.length q → S q) : SPre W' g L b off ss :=
  ⟨hk.at_ h.x0 (hS _ (.inl rfl)), fun k s hs => by
    have hlt := (List.getElem?_eq_some_iff.1 hs).1
    obtain ⟨h1, h2⟩ := h.rows k s hs
    exact ⟨Nat.lt_of_lt_of_le h1 hk.size, range_keep h2 hk h1 (hS _ (.inr ⟨by omega, rfl⟩))⟩⟩
theorem SPre.lt {W : World} {g b off : Nat} {L : List Value} {ss : List (List Value)} (h : SPre W g L b off ss) {q : Nat} (hq : SRd g b ss.length q) : q < W.heap.size := by
  rcases hq with rfl | ⟨hn, rfl⟩
  · exact (Array.getElem?_eq_some_iff.1 h.x0).1
  · exact (h.rows 0 _ (List.getElem?_eq_getElem hn)).1
section
variable {P : Program}
theorem wpListIn_load_g {F : Fence} {nn : Nat} {w : World} {a : Act} {Q : Exit → Act → World → Prop} {ops : Array Oper} {rest : List Oper} {op : Oper} (hgd : op.guard = none) (ty : TypeId) (x : Operand) (ho : op.op = .load ty x)
    (b o : Nat) (hx : a.eval x = .pointer (some ⟨b, o, none⟩)) (cs : List Value) (d : TypeDesc) (hc : w.rangeAt b o cs)
    (hu : P.underlying ty = some d) (hd : d.isRow = true) (hi : (P.info? ty).map (·.size) = some cs.length)
    (h : wpListIn F nn P ops Q rest (a.put op.dst (.agg cs.toArray)) w) : wpListIn F nn P ops Q (op :: rest) a w := by
  refine wpListIn_plain hgd fun K hK => ?_
  unfold Oper.wpIn
  refine ⟨?_, ?_⟩
  · simp [Oper.about, ho]
  · rw [Oper.semAt_plain F _ _ (by rw [ho]; intro c hc'; cases hc')]
    simp only [execOp, ho, hx, Instr.loadAt, Instr.sureAddr, Sem.run_bind, Sem.run_pure, Result.andThen_ok, run_loadVar_mid w b o ty cs d hc hu hd hi]
    exact hK _ _ h
theorem wpListIn_store_g {F : Fence} {nn : Nat} {w : World} {a : Act} {Q : Exit → Act → World → Prop} {ops : Array Oper} {rest : List Oper} {op : Oper} (hgd : op.guard = none) (ty : TypeId) (x y : Operand) (ho : op.op = .store ty x y)
    (b o : Nat) (cells : Array Value) (hx : a.eval x = .pointer (some ⟨b, o, none⟩)) (hy : a.eval y = .agg cells)
    (ht : w.there b o cells.size) (hi : (P.info? ty).map (·.size) = some cells.size) (h1 : cells.all (·.oneCell') = true)
    (h : wpListIn F nn P ops Q rest (a.put op.dst undef) (w.setCells b o cells.toList)) : wpListIn F nn P ops Q (op :: rest) a w := by
  refine wpListIn_plain hgd fun K hK => ?_
  unfold Oper.wpIn
  refine ⟨?_, ?_⟩
  · simp [Oper.about, ho]
  · rw [Oper.semAt_plain F _ _ (by rw [ho]; intro c hc'; cases hc')]
    simp only [execOp, ho, hx, hy, Instr.storeAt, Instr.sureAddr, Sem.run_bind, Sem.run_pure, Result.andThen_ok, run_storeVar_mid w b o ty cells ht hi h1]
    exact hK _ _ h
end
set_option maxHeartbeats 1000000 in
set_option maxRecDepth 100000 in
theorem sections1 (g b off : Nat) (L : List Value) (ss : List (List Value)) (A : Option Addr) (c : Nat) (hA : ss.length = 0 ∨ A = some ⟨b, off, none⟩) (h0 : L[0]? = some (.slice A ss.length c)) (hl : ss.length ≤ c)
    (hone : ∀ s ∈ ss, s.length = 11 ∧ ∀ u ∈ s, u.oneCell' = true) :
    Iter Tryd.prog 31 #[.pointer (some ⟨g, 0, none⟩)] (fun _ => False) (SRd g b ss.length) (secL ss) (fun W => SPre W g L b off ss) := by
  intro lp J O0 W0 hP hO hJ hY hj0
  have hOg : ∀ q, SRd g b ss.length q → ¬ O0 q := fun q hq h => (hO q h).2.2 hq
  have HY := Lib.hid hY
  have HJK := Lib.hid hJ
  have HO0 := Lib.hid hOg
  have x0 := cell_list hP.x0 h0
  obtain ⟨m, hm⟩ : ∃ m, min ss.length 24 = m := ⟨_, rfl⟩
  have hm1 : min (ss.length : Int) 24 = (m : Int) := by omega
  have i4 : (m : Int) ≤ (c : Int) := by omega
  have i5 : m ≤ c := by omega
  have HM := Lib.hid hm
  clear hY hO hJ hOg hm
  refine callsIn_of_wp Tryd.func31 rfl trivial ?_ rfl
  simp only [Tryd.ntmps31, List.size_toArray, List.length_cons, List.length_nil, Nat.reduceAdd, Nat.reduceSub, Array.replicate_succ, Array.replicate_zero, List.push_toArray, List.append_toArray, List.nil_append, List.cons_append]
  gi_wp2
  gi_loopw [13] (fun i wr => ∃ (k : Nat) (O : Nat → Prop), k ≤ m ∧ i = .int .i64 k ∧ Hid (J k O wr) ∧ SPre wr g L b off ss ∧ Hid (∀ q, SRd g b ss.length q → ¬ O q) ∧ W0.heap.size ≤ wr.heap.size) (fun i _ => m - (intOf i).toNat)
  case atStart => exact ⟨0, O0, Nat.zero_le _, rfl, Lib.hid hj0, hP, HO0, Nat.le_refl _⟩
  case round =>
    obtain ⟨k, O, hk, rfl, HJ, M, HO, hsz⟩ := hrel
    clear x0 hP
    by_cases hlt : k < m
    · have hks : k < ss.length := by have := HM.out; omega
      obtain ⟨s, hs⟩ : ∃ s, ss[k]? = some s := ⟨_, List.getElem?_eq_getElem hks⟩
      obtain ⟨hb, hr⟩ := M.rows k s hs
      obtain ⟨h11, h1c⟩ := hone s (List.mem_of_getElem? hs)
      obtain rfl : A = some ⟨b, off, none⟩ := hA.resolve_left (by omega)
      have i1 : (k : Int) < (m : Int) := by omega
      have szS : (Tryd.prog.info? 63).map (·.size) = some s.length := by rw [h11]; kernel_rfl
      have HS := Lib.hid hs
      clear hs
      have GN : (wr.alloc (.cells #[.int .u8 0, .int .i64 0, .int .i64 0, .int .i64 0, .int .i64 0, .int .i64 0, .int .i64 0, .int .i64 0, .int .i64 0, .int .i64 0, .int .i64 0] 63)).heap[wr.heap.size]? = some (.cells #[.int .u8 0, .int .i64 0, .int .i64 0, .int .i64 0, .int .i64 0, .int .i64 0, .int .i64 0, .int .i64 0, .int .i64 0, .int .i64 0, .int .i64 0] 63 (0, 0)) := new_at rfl _
      have k2 : (wr.alloc (.cells #[.int .u8 0, .int .i64 0, .int .i64 0, .int .i64 0, .int .i64 0, .int .i64 0, .int .i64 0, .int .i64 0, .int .i64 0, .int .i64 0, .int .i64 0] 63)).there wr.heap.size 0 s.toArray.size := there_of GN 0 _ (by simp [h11])
      have k3 : ((wr.alloc (.cells #[.int .u8 0, .int .i64 0, .int .i64 0, .int .i64 0, .int .i64 0, .int .i64 0, .int .i64 0, .int .i64 0, .int .i64 0, .int .i64 0, .int .i64 0] 63)).setCells wr.heap.size 0 s.toArray.toList).heap[wr.heap.size]? = some (.cells s.toArray 63 (0, 0)) := by rw [setCells_at _ _ GN, setL_all (by simp [h11])]
      have k4 : Below wr.heap.size wr ((wr.alloc (.cells #[.int .u8 0, .int .i64 0, .int .i64 0, .int .i64 0, .int .i64 0, .int .i64 0, .int .i64 0, .int .i64 0, .int .i64 0, .int .i64 0, .int .i64 0] 63)).setCells wr.heap.size 0 s.toArray.toList) := below_setCells (Nat.le_refl _) _ _ (below_new _ _)
      have szm : (Tryd.prog.info? 63).map (·.size) = some s.toArray.size := by simpa using szS
      have oneS : s.toArray.all (·.oneCell') = true := all_oneCell_toArray h1c
      obtain ⟨Ws, hWs⟩ : ∃ Ws, (wr.alloc (.cells #[.int .u8 0, .int .i64 0, .int .i64 0, .int .i64 0, .int .i64 0, .int .i64 0, .int .i64 0, .int .i64 0, .int .i64 0, .int .i64 0, .int .i64 0] 63)).setCells wr.heap.size 0 s.toArray.toList = Ws := ⟨_, rfl⟩
      rw [hWs] at k3 k4
      have RS := range_of k3
      have hk0 : Keep (fun q => q < wr.heap.size) wr Ws := Keep.of_below k4 (fun _ h _ => h)
      have M2 := M.keep hk0 (fun q hq => M.lt hq)
      have hsz2 : W0.heap.size ≤ Ws.heap.size := Nat.le_trans hsz k4.size
      have hJ2 := HJK.out _ _ _ _ HJ.out (hk0.mono (fun q hq _ => hq))
      have hyl := HY.out k _ O Ws (secL_at (by have := HM.out; omega)) hJ2 hsz2
      have hgd : ss.getD k [] = s := by simp [List.getD, HS.out]
      unfold secV at hyl
      rw [hgd] at hyl
      obtain ⟨fn, tmps, assign, body, hy, hR⟩ := hyl
      have HWS := Lib.hid hWs
      have HSZ := Lib.hid k4.size
      clear hWs k3 k4 GN hgd hJ2
      gi_wp2_with (first
        | refine wpListIn_load_g rfl 63 (.tmp 16) (by rfl) b (off + k * 11) (by rfl) s _ hr Tryd.underlying63 rfl szS ?_
        | (refine wpListIn_store_g rfl 63 (.tmp 4) (.tmp 17) (by rfl) wr.heap.size 0 s.toArray (by rfl) (by rfl) k2 szm oneS ?_; rw [HWS.out])
        | refine wpListIn_load_g rfl 63 (.tmp 4) (by rfl) wr.heap.size 0 (by rfl) s _ RS Tryd.underlying63 rfl szS ?_)
      refine ⟨rfl, hR.mono ?_⟩
      rintro e W' ⟨rfl, O', hJ', ho', hk'⟩
      have M' := M2.keep hk' HO.out
      have hs' := hk'.size
      have HO' := Lib.hid (fun q hq => not_later (HO.out q hq) (M2.lt hq) ho')
      clear hy hR hr k2 szm oneS RS
      gi_wp2
      go_roundw
      case rel => exact ⟨k + 1, O', by omega, by go_num, Lib.hid hJ', M', HO', by omega⟩
      case measure => simp [intOf]; omega
    · obtain rfl : k = m := by omega
      gi_wp2
      go_end0
      exact ⟨⟨_, rfl⟩, O, by rw [secL_length, HM.out]; exact HJ.out⟩
end Go.Proofs.YtlcahkkpbikccaaDoor
