/- Queues of numbers: contracts of slices.Chunk and of Parts. Nothing that was there is turned. -/
import Derived.Test.YtdniapakoolbjaaQueC
import Derived.Test.YtdniapakoolbjaaRnd
namespace Go.Proofs.Ytdniapakoolbjaa
open Go.RowKit Rf Mem
attribute [local go_sem ↓] run_max2 run_min2
theorem not_later {O O' : Nat → Prop} {W : World} {q : Nat} (h : ¬ O q) (hq : q < W.heap.size) (ho : ∀ k, O' k → O k ∨ W.heap.size ≤ k) : ¬ O' q := fun hO => by
  rcases ho q hO with h1 | h1
  · exact h h1
  · omega
/-- how many chunks of n -/
def chunks (n len : Nat) : Nat := (len + n - 1) / n
theorem chunks_lt {n len q : Nat} (hn : 0 < n) : q < chunks n len ↔ q * n < len := by
  unfold chunks
  rw [← Nat.succ_le_iff, Nat.le_div_iff_mul_le hn, Nat.succ_mul]; omega
/-- chunk q, as a slice -/
def chunkV (b off n len q : Nat) : Array Value := #[.slice (some ⟨b, off + q * n, none⟩) (min n (len - q * n)) (min n (len - q * n))]
def chunkL (b off n len : Nat) : List (Array Value) := (List.range (chunks n len)).map (chunkV b off n len)
theorem chunkL_length (b off n len : Nat) : (chunkL b off n len).length = chunks n len := by simp [chunkL]
theorem chunkL_at {b off n len q : Nat} (hn : 0 < n) (h : q * n < len) : (chunkL b off n len)[q]? = some (chunkV b off n len q) := by
  have := (chunks_lt (len := len) hn).2 h
  simp [chunkL, this]
theorem Chunk_c (A : Option Addr) (len c : Nat) (n : Int) (w : World) (hn : 1 ≤ n) : Calls Try.prog 17 #[.slice A len c, .int .i64 n] w fun e W' => e = .returned (.func (.func 19) #[] #[.pointer (some ⟨w.heap.size, 0, none⟩), .pointer (some ⟨w.heap.size + 1, 0, none⟩)]) ∧ (w.alloc (.cells #[.slice A len c] 24)).alloc (.cells #[.int .i64 n] 3) = W' := by
  have q : decide (n < 1) = false := decide_eq_false (by omega)
  go_enter Try.func17, Try.ntmps17
  go_wp2
  go_ret
  exact ⟨rfl, rfl⟩
set_option maxRecDepth 100000 in
theorem chunk1 (g : Nat) (A : Option Addr) (b off c n len : Nat) (hA : len = 0 ∨ A = some ⟨b, off, none⟩) (hn : 0 < n) (hn2 : n ≤ 9223372036854775807) (hl : len ≤ 1000) (hc : len ≤ c) :
    Iter Try.prog 19 #[.pointer (some ⟨g, 0, none⟩), .pointer (some ⟨g + 1, 0, none⟩)] (fun _ => False) (fun q => q = g ∨ q = g + 1) (chunkL b off n len)
      (fun W => W.heap[g]? = some (.cells #[.slice A len c] 24 (0, 0)) ∧ W.heap[g + 1]? = some (.cells #[.int .i64 n] 3 (0, 0))) := by
  intro l J O0 W0 hP hO hJ hY h0
  obtain ⟨G0, G1⟩ := hP
  have hOg : ¬ O0 g := fun h => (hO g h).2.2 (.inl rfl)
  have hOh : ¬ O0 (g + 1) := fun h => (hO (g + 1) h).2.2 (.inr rfl)
  have HY := Lib.hid hY
  have HJK := Lib.hid hJ
  have HO0 := Lib.hid hOg
  have HO1 := Lib.hid hOh
  have HAA := Lib.hid hA
  clear hY hO hJ hOg hOh hA
  refine callsIn_of_wp Try.func19 rfl trivial ?_ rfl
  simp only [Try.ntmps19, List.size_toArray, List.length_cons, List.length_nil, Nat.reduceAdd, Nat.reduceSub, Array.replicate_succ, Array.replicate_zero, List.push_toArray, List.append_toArray, List.nil_append, List.cons_append]
  gi_wp2
  gi_loopw [4] (fun i wr => ∃ (q : Nat) (O : Nat → Prop), (q = 0 ∨ q * n < len + n) ∧ i = .int .i64 ((q * n : Nat) : Int) ∧ q ≤ chunks n len ∧ Hid (J q O wr) ∧ wr.heap[g]? = some (.cells #[.slice A len c] 24 (0, 0)) ∧ wr.heap[g + 1]? = some (.cells #[.int .i64 n] 3 (0, 0)) ∧ Hid (¬ O g) ∧ Hid (¬ O (g + 1)) ∧ W0.heap.size ≤ wr.heap.size) (fun i _ => len - (intOf i).toNat)
  case atStart => exact ⟨0, O0, .inl rfl, by simp, Nat.zero_le _, Lib.hid h0, G0, G1, HO0, HO1, Nat.le_refl _⟩
  case round =>
    obtain ⟨q, O, hq1, rfl, hq2, HJ, X0, X1, HA, HB, hsz⟩ := hrel
    have x0 := cell_at X0 0
    have x1 := cell_at X1 0
    have HX0 := Lib.hid X0
    have HX1 := Lib.hid X1
    by_cases hlt : q * n < len
    · obtain rfl : A = some ⟨b, off, none⟩ := by
        rcases HAA.out with h | h
        · omega
        · exact h
      have hyl := HY.out q _ O wr.drew (chunkL_at hn hlt) (HJK.out _ _ _ _ HJ.out (Keep.refl _ _).drew) hsz
      have hqn : (q + 1) * n = q * n + n := Nat.succ_mul q n
      have hq3 : q + 1 ≤ chunks n len := (chunks_lt hn).2 hlt
      unfold chunkV at hyl
      have HQN := Lib.hid hqn
      have hlim : q * n + n ≤ 9223372036854775807 := by
        rcases Nat.eq_zero_or_pos q with rfl | h
        · rw [Nat.zero_mul]; omega
        · have : n ≤ q * n := Nat.le_mul_of_pos_left n h
          omega
      clear hq1 hqn X0 X1
      generalize q * n = p at *
      obtain ⟨m, hm⟩ : ∃ m, min n (len - p) = m := ⟨_, rfl⟩
      have hm1 : 0 < m := by omega
      have hm2 : p + m ≤ len := by omega
      have hmi : min (n : Int) ((len - p : Nat) : Int) = (m : Int) := by omega
      rw [hm] at hyl
      have i1 : (p : Int) < (len : Int) := by omega
      have i2 : ¬ c = p := by omega
      have i3 : (p : Int) ≤ (len : Int) := by omega
      have i4 : (len : Int) ≤ (c : Int) := by omega
      have hwr : IntKind.i64.wrap ((p : Int) + (m : Int)) = (p : Int) + (m : Int) := IntWalk.i64_in _ (by omega)
      have hwr2 : IntKind.i64.wrap ((p : Int) + (n : Int)) = (p : Int) + (n : Int) := IntWalk.i64_in _ (by omega)
      obtain ⟨fn, tmps, assign, body, hy, hR⟩ := hyl
      clear hm
      gi_wp2
      refine wpIn_wide.2 (wp_region_held_drew (S := (fun w' => w'.cell? ⟨g, 0, none⟩ = some (.slice (some ⟨b, off, none⟩) len c) ∧ w'.cell? ⟨g + 1, 0, none⟩ = some (.int .i64 n))) (by kernel_rfl) ?_ (fun hHeld => ?_))
      · exact ⟨x0, x1⟩
      refine wpAnyH_take (i := 0) (v := ?_) rfl (by kernel_rfl) (by kernel_rfl) (by kernel_rfl) (fun _ _ _ h => h) (Or.inl ⟨by rfl, ?_⟩) (by assumption) ?_
      rotate_left
      · intro w hSw
        try dsimp only at hSw
        go_simp
        try with_reducible rfl
      simp only [List.getElem_toArray, List.getElem_cons_succ, List.getElem_cons_zero, Act.put, List.setIfInBounds_toArray, List.set_cons_zero, List.set_cons_succ]
      refine wpAnyH_take (i := 1) (v := ?_) rfl (by kernel_rfl) (by kernel_rfl) (by kernel_rfl) (fun _ _ _ h => h) (Or.inl ⟨by rfl, ?_⟩) (by assumption) ?_
      rotate_left
      · intro w hSw
        try dsimp only at hSw
        go_simp
        try with_reducible rfl
      simp only [List.getElem_toArray, List.getElem_cons_succ, List.getElem_cons_zero, Act.put, List.setIfInBounds_toArray, List.set_cons_zero, List.set_cons_succ]
      refine wpAnyH_take (i := 2) (v := ?_) rfl (by kernel_rfl) (by kernel_rfl) (by kernel_rfl) (fun _ _ _ h => h) (Or.inl ⟨by rfl, ?_⟩) (by assumption) ?_
      rotate_left
      · intro w hSw
        try dsimp only at hSw
        go_simp
        try with_reducible rfl
      simp only [List.getElem_toArray, List.getElem_cons_succ, List.getElem_cons_zero, Act.put, List.setIfInBounds_toArray, List.set_cons_zero, List.set_cons_succ]
      refine wpAnyH_take (i := 3) (v := ?_) rfl (by kernel_rfl) (by kernel_rfl) (by kernel_rfl) (fun _ _ _ h => h) (Or.inl ⟨by rfl, ?_⟩) (by assumption) ?_
      rotate_left
      · intro w hSw
        try dsimp only at hSw
        go_simp
        try with_reducible rfl
      simp only [List.getElem_toArray, List.getElem_cons_succ, List.getElem_cons_zero, Act.put, List.setIfInBounds_toArray, List.set_cons_zero, List.set_cons_succ]
      refine wpAnyH_take (i := 4) (v := ?_) rfl (by kernel_rfl) (by kernel_rfl) (by kernel_rfl) (fun _ _ _ h => h) (Or.inl ⟨by rfl, ?_⟩) (by assumption) ?_
      rotate_left
      · intro w hSw
        try dsimp only at hSw
        go_simp
        try with_reducible rfl
      simp only [List.getElem_toArray, List.getElem_cons_succ, List.getElem_cons_zero, Act.put, List.setIfInBounds_toArray, List.set_cons_zero, List.set_cons_succ]
      refine wpAnyH_take (i := 5) (v := ?_) rfl (by kernel_rfl) (by kernel_rfl) (by kernel_rfl) (fun _ _ _ h => h) (Or.inl ⟨by rfl, ?_⟩) (by assumption) ?_
      rotate_left
      · intro w hSw
        try dsimp only at hSw
        go_simp
        try with_reducible rfl
      simp only [List.getElem_toArray, List.getElem_cons_succ, List.getElem_cons_zero, Act.put, List.setIfInBounds_toArray, List.set_cons_zero, List.set_cons_succ]
      refine wpAnyH_take (i := 6) (v := ?_) rfl (by kernel_rfl) (by kernel_rfl) (by kernel_rfl) (fun _ _ _ h => h) (Or.inl ⟨by rfl, ?_⟩) (by assumption) ?_
      rotate_left
      · intro w hSw
        try dsimp only at hSw
        go_simp
        try with_reducible rfl
      simp only [List.getElem_toArray, List.getElem_cons_succ, List.getElem_cons_zero, Act.put, List.setIfInBounds_toArray, List.set_cons_zero, List.set_cons_succ]
      refine wpAnyH_done (by kernel_rfl) ?_ _
      clear hHeld
      have hmp : p + m ≤ c := by omega
      have x0' : wr.drew.cell? ⟨g, 0, none⟩ = some (.slice (some ⟨b, off, none⟩) len c) := x0
      have x1' : wr.drew.cell? ⟨g + 1, 0, none⟩ = some (.int .i64 n) := x1
      have X0 : wr.drew.heap[g]? = some (.cells #[.slice (some ⟨b, off, none⟩) len c] 24 (0, 0)) := HX0.out
      have X1 : wr.drew.heap[g + 1]? = some (.cells #[.int .i64 n] 3 (0, 0)) := HX1.out
      have hszd : W0.heap.size ≤ wr.drew.heap.size := hsz
      clear x0 x1 HX0 HX1 HJ hsz
      generalize wr.drew = W1 at *
      have HX0 := Lib.hid X0
      have HX1 := Lib.hid X1
      clear X0 X1
      gi_wp2
      refine ⟨rfl, hR.mono ?_⟩
      rintro e W' ⟨rfl, O', hJ', ho', hk'⟩
      have Y0 := hk'.at_ HX0.out HA.out
      have Y1 := hk'.at_ HX1.out HB.out
      have l0 := (Array.getElem?_eq_some_iff.1 HX0.out).1
      have l1 := (Array.getElem?_eq_some_iff.1 HX1.out).1
      have hk2 := hk'.size
      have y1 := cell_at Y1 0
      have HY0 := Lib.hid Y0
      have HY1 := Lib.hid Y1
      clear hy hR x0' x1' Y0 Y1
      gi_wp2
      go_roundw
      case rel =>
        refine ⟨q + 1, O', ?_, ?_, hq3, Lib.hid hJ', HY0.out, HY1.out, Lib.hid (not_later HA.out l0 ho'), Lib.hid (not_later HB.out l1 ho'), by omega⟩
        · have := HQN.out; omega
        · rw [HQN.out]; push_cast; go_num
      case measure => simp [intOf]; omega
    · have hq4 : q = chunks n len := by
        have := (chunks_lt (len := len) (q := q) hn)
        omega
      have i5 : ¬ ((q * n : Nat) : Int) < (len : Int) := by omega
      obtain ⟨p, hp⟩ : ∃ p, q * n = p := ⟨_, rfl⟩
      rw [hp] at i5 ⊢
      have i6 : decide ((p : Int) < (len : Int)) = false := decide_eq_false i5
      clear hp hq1
      gi_wp2
      go_end0
      exact ⟨⟨_, rfl⟩, O, by rw [chunkL_length, ← hq4]; exact HJ.out⟩
/-- the parts -/
def part (n : Nat) (zs : List Int) (q : Nat) : List Int := (zs.drop (q * n)).take n
/-- block gr holds the row of the parts so far; O: the blocks of all of it -/
structure PAcc (base gr n : Nat) (zs : List Int) (q : Nat) (O : Nat → Prop) (W : World) (v : Value) (vs : List Value) : Prop where
  at_ : W.heap[gr]? = some (.cells #[v] 35 (0, 0))
  own : W.ownsRow base 24 1 v q vs
  each : ∀ i u, vs[i]? = some u → W.ownsRow base 3 1 u (part n zs i).length (nums (part n zs i))
  o : ∀ k, O k ↔ (k = gr ∨ v.ownBlock = some k ∨ ∃ u, u ∈ vs ∧ u.ownBlock = some k)
theorem own_type {W : World} {base e sz n : Nat} {v : Value} {xs : List Value} (h : W.ownsRow base e sz v n xs) {g : Nat} (hg : v.ownBlock = some g) : ∃ cur, W.heap[g]? = some (.cells cur e (0, 0)) := by
  obtain ⟨_, h⟩ := h
  rcases h with ⟨rfl, _⟩ | ⟨g', cap, cur, rfl, _, hh, _⟩
  · cases hg
  · cases hg; exact ⟨cur, hh⟩
theorem PAcc.keep {base gr n q : Nat} {zs : List Int} {O S : Nat → Prop} {W W' : World} {v : Value} {vs : List Value} (h : PAcc base gr n zs q O W v vs) (hk : Keep S W W') (hS : ∀ k, O k → S k) : PAcc base gr n zs q O W' v vs := by
  refine ⟨hk.at_ h.at_ (hS gr ((h.o gr).2 (.inl rfl))), own_later h.own (fun k hk' => hk.block k (own_base h.own hk').2 (hS k ((h.o k).2 (.inr (.inl hk'))))), fun i u hu => own_later (h.each i u hu) (fun k hk' => hk.block k (own_base (h.each i u hu) hk').2 (hS k ((h.o k).2 (.inr (.inr ⟨u, List.mem_of_getElem? hu, hk'⟩))))), h.o⟩
theorem PAcc.ne {base gr n q : Nat} {zs : List Int} {O : Nat → Prop} {W : World} {v : Value} {vs : List Value} (h : PAcc base gr n zs q O W v vs) : v.ownBlock ≠ some gr := fun e => by
  obtain ⟨cur, hc⟩ := own_type h.own e
  rw [h.at_] at hc
  simp at hc
theorem PAcc.ne2 {base gr n q i : Nat} {zs : List Int} {O : Nat → Prop} {W : World} {v u : Value} {vs : List Value} (h : PAcc base gr n zs q O W v vs) (hu : vs[i]? = some u) : u.ownBlock ≠ some gr := fun e => by
  obtain ⟨cur, hc⟩ := own_type (h.each i u hu) e
  rw [h.at_] at hc
  simp at hc
theorem PAcc.ne3 {base gr n q i k : Nat} {zs : List Int} {O : Nat → Prop} {W : World} {v u : Value} {vs : List Value} (h : PAcc base gr n zs q O W v vs) (hu : vs[i]? = some u) (hv : v.ownBlock = some k) : u.ownBlock ≠ some k := fun e => by
  obtain ⟨cur, hc⟩ := own_type (h.each i u hu) e
  obtain ⟨cur2, hc2⟩ := own_type h.own hv
  rw [hc] at hc2
  simp at hc2
theorem info_sl : (Try.prog.info? 24).map (fun i => (i.zero, i.size, i.bytes)) = some (some (.slice none 0 0), 1, 24) := by kernel_rfl
/-- a part more: behind Clone, the row of one, append, the store -/
theorem PAcc.next {w W W1 W2 W3 : World} {gr n q : Nat} {zs : List Int} {O : Nat → Prop} {v v1 v3 : Value} {vs : List Value} {c1 : Nat} {A1 : Option Addr} (h : PAcc w.heap.size gr n zs q O W v vs) (hgr : w.heap.size ≤ gr) (hw : Below w.heap.size w W)
    (hv1 : v1 = .slice A1 (part n zs q).length c1) (b1 : Below W.heap.size W W1) (o1 : W1.ownsRow W.heap.size 3 1 v1 (part n zs q).length (nums (part n zs q))) (h2 : W2 = W1.alloc (.cells #[v1] 24))
    (o3 : W3.ownsRow w.heap.size 24 1 v3 (q + 1) (vs ++ [v1])) (g3 : W2.grownBy W3 v.ownBlock) (hv3 : v3.ownBlock = v.ownBlock ∨ v3.ownBlock = some W2.heap.size) :
    ∃ O' : Nat → Prop, PAcc w.heap.size gr n zs (q + 1) O' (W3.setCell ⟨gr, 0, none⟩ v3) v3 (vs ++ [v1]) ∧ (∀ k, O' k → O k ∨ W.heap.size ≤ k) ∧ Keep (fun k => ¬ O k) W (W3.setCell ⟨gr, 0, none⟩ v3) ∧ Below w.heap.size w (W3.setCell ⟨gr, 0, none⟩ v3) := by
  have b2 : Below W.heap.size W W2 := by rw [h2]; exact below_step b1 (below_new _ _)
  have s1 := b1.size
  have s2 := b2.size
  have sz2 : W2.heap.size = W1.heap.size + 1 := by rw [h2]; simp
  have hgrW : gr < W.heap.size := (Array.getElem?_eq_some_iff.1 h.at_).1
  have kB : Keep (fun k => ¬ O k) W (W3.setCell ⟨gr, 0, none⟩ v3) :=
    ((Keep.of_below b2 (fun _ hk _ => hk)).grown g3 (fun k hk _ hs => hs ((h.o k).2 (.inr (.inl hk))))).setCell (fun _ hs => hs ((h.o gr).2 (.inl rfl))) _
  have at2 : W2.heap[gr]? = some (.cells #[v] 35 (0, 0)) := below_at b2 h.at_ hgrW
  have at3 : W3.heap[gr]? = some (.cells #[v] 35 (0, 0)) := (g3.block gr (by omega) (fun e => h.ne e.symm)).trans at2
  have ne3 : v3.ownBlock ≠ some gr := by
    rcases hv3 with e | e
    · rw [e]; exact h.ne
    · rw [e]; intro e2; have := Option.some.inj e2; omega
  have inn : ∀ i u, vs[i]? = some u → (W3.setCell ⟨gr, 0, none⟩ v3).ownsRow w.heap.size 3 1 u (part n zs i).length (nums (part n zs i)) := fun i u hu => by
    refine own_later (h.each i u hu) fun k hk => ?_
    have hkW := (own_base (h.each i u hu) hk).2
    refine ((Below.heap_setCell _ ⟨gr, 0, none⟩ _ k (fun e => by simp at e; subst e; exact h.ne2 hu hk)).trans (g3.block k (by omega) (fun e => h.ne3 hu e.symm hk))).trans (b2.block k hkW)
  have new : (W3.setCell ⟨gr, 0, none⟩ v3).ownsRow w.heap.size 3 1 v1 (part n zs q).length (nums (part n zs q)) := by
    refine own_base_le (own_later o1 fun k hk => ?_) hw.size
    have hkb := own_base o1 hk
    refine ((Below.heap_setCell _ ⟨gr, 0, none⟩ _ k (fun e => by simp at e; omega)).trans (g3.block k (by omega) (fun e => by have := (own_base h.own e.symm).2; omega))).trans ?_
    rw [h2]; exact Below.heap_alloc _ _ k hkb.2
  have hlen : vs.length = q := by have := h.own.1; omega
  refine ⟨fun k => k = gr ∨ v3.ownBlock = some k ∨ ∃ u, u ∈ vs ++ [v1] ∧ u.ownBlock = some k, ⟨?_, ?_, fun i u hu => ?_, fun k => Iff.rfl⟩, fun k hk => ?_, kB, ?_⟩
  · rw [set_at at3 0]; rfl
  · exact own_set o3 ne3 _
  · by_cases hi : i < vs.length
    · exact inn i u (by rwa [List.getElem?_append_left hi] at hu)
    · have hi2 := (List.getElem?_eq_some_iff.1 hu).1
      simp at hi2
      obtain rfl : i = q := by omega
      rw [List.getElem?_append_right (by omega), hlen, Nat.sub_self] at hu
      simp at hu
      subst hu
      exact new
  · rcases hk with rfl | hk | ⟨u, hu, hk⟩
    · exact .inl ((h.o _).2 (.inl rfl))
    · rcases hv3 with e | e
      · exact .inl ((h.o k).2 (.inr (.inl (e ▸ hk))))
      · rw [e] at hk; have := Option.some.inj hk; exact .inr (by omega)
    · rcases List.mem_append.1 hu with hu | hu
      · exact .inl ((h.o k).2 (.inr (.inr ⟨u, hu, hk⟩)))
      · simp at hu; subst hu
        exact .inr (own_base o1 hk).1
  · refine below_keep hw kB (Nat.le_refl _) fun k hk ho => ?_
    rcases (h.o k).1 ho with rfl | h1 | ⟨u, hu, h1⟩
    · omega
    · have := (own_base h.own h1).1; omega
    · obtain ⟨i, hi⟩ := List.getElem?_of_mem hu
      have := (own_base (h.each i u hi) h1).1; omega
end Go.Proofs.Ytdniapakoolbjaa
