/- Put of bits. -/
import Derived.Test.YtioggdiicgfoaaaBitsF
namespace Go.Proofs.Ytioggdiicgfoaaa
open Go.RowKit Rf Mem Bv Bits Str
attribute [local go_sem ↓] run_max2 run_min2
attribute [local go_sem] Oper.semAt_some
theorem bodyPostM_bits2 {fn : Func} {R : Ending → World → Prop} {t u : Tmp} (hf : fn.results = #[.cell t 62, .tmp u]) {tmps : Array Value} {D g : Nat} {W : World} {x y : Value} {f : Nat × Nat}
    (hD : W.heap[D]? = some (.deferred (some []))) (hs : tmps.getD t undef = .pointer (some ⟨g, 0, none⟩)) (hg : (W.putObj D (.deferred none)).heap[g]? = some (.cells #[x, y] 62 f))
    (h : R (.returned (.tuple #[.agg #[x, y], tmps.getD u undef])) (W.putObj D (.deferred none))) :
    bodyPostM Fence.wide 0 Try.prog fn R .ret { tmps := tmps, defers := [{ target := .collected D, args := #[] }] } W := by
  refine ⟨by simp, .inl ⟨_, _, rfl, run_takeDeferred hD, ?_⟩⟩
  exact ⟨_, res_bits2 hf hs hg, h⟩
theorem acc_keep {base g : Nat} {O S : Nat → Prop} {W W' : World} {l : List Bool} (h : Acc base g O W l) (hk : Keep S W W') (hS : ∀ k, O k → S k) : Acc base g O W' l := by
  obtain ⟨v, B, hg, ho, hH, hbg, hne, hO⟩ := h
  exact ⟨v, B, hk.at_ hg (hS g ((hO g).2 (.inl rfl))), own_later ho (fun k hk' => hk.block k (own_base ho hk').2 (hS k ((hO k).2 (.inr hk')))), hH, hbg, hne, hO⟩
theorem high_c (n w : Nat) (W : World) : Calls Try.prog 49 #[.int .i64 (n : Int), .int .i64 (w : Int)] W fun e W' => e = .returned (.func (.func 53) #[] #[.pointer (some ⟨W.heap.size + 1, 0, none⟩), .pointer (some ⟨W.heap.size, 0, none⟩)]) ∧ (W.alloc (.cells #[.int .i64 (n : Int)] 3)).alloc (.cells #[.int .i64 (w : Int)] 3) = W' := by
  go_enter Try.func49, Try.ntmps49
  go_wp2
  go_ret
  exact ⟨rfl, rfl⟩
set_option maxHeartbeats 1000000 in
set_option maxRecDepth 100000 in
theorem Put_good (v : Value) (B : List (BitVec 8)) (l : List Bool) (n wd : Nat) (w : World) (hs : SliceAt w 1 v B.length (u8s B)) (hH : Holds B l) (hl : l.length ≤ 999000) (hw : wd ≤ 32) (hn : n < 2 ^ wd) :
    Calls Try.prog 33 #[bv v l.length, .int .i64 n, .int .i64 wd] w fun e w' => Below w.heap.size w w' ∧
      ∃ v' B', e = .returned (.tuple #[bv v' ((l.length + wd : Nat) : Int), .int .i64 0]) ∧ w'.ownsRow w.heap.size 5 1 v' B'.length (u8s B') ∧ Holds B' (l ++ numBits n wd) := by
  have hr : right B (l.length : Int) = true := (right_iff B _).2 ⟨l, rfl, hH⟩
  have hBl := hH.1
  have hBs : B.length ≤ 125000 := by omega
  clear hBl
  have hB : Below w.heap.size w ((w.alloc (.cells #[v, .int .i64 (l.length : Int)] 62)).alloc (.cells #[.slice none 0 0, .int .i64 0] 62)) := ((Below.refl _ w).alloc (Nat.le_refl _) _).alloc (by simp) _
  have hs' := hs.later hB
  obtain ⟨A, c, rfl, _⟩ := hs.form
  clear hs
  refine (callsIn_wide (n := 0)).1 (callsIn_of_wp_marks Try.func33 rfl trivial ?_ rfl)
  refine wpIn_wide.2 ?_
  simp only [Try.ntmps33, List.size_toArray, List.length_cons, List.length_nil, Nat.reduceAdd, Nat.reduceSub, Array.replicate_succ, Array.replicate_zero, List.push_toArray, List.append_toArray, List.nil_append, List.cons_append]
  go_wp2_with fail
  refine (begin_c _ B _ _ hs' (by omega) (by omega) (by omega)).mono ?_
  rintro e w1 ⟨b1, (⟨_, v1, rfl, ho1⟩ | ⟨hf, _⟩)⟩
  rotate_left
  · rw [hr] at hf; cases hf
  have g1 := below_at b1 (k := w.heap.size + 1) (o := .cells #[.slice none 0 0, .int .i64 0] 62) (new_at (by simp) _) (by simp)
  have c10 := cell_at g1 0
  have c11 := cell_at g1 1
  have f10 := free_at g1 0
  have f11 := free_at g1 1
  obtain ⟨A1, c1, rfl, _⟩ := (sliceAt_of_own ho1).form
  have hz : decide (0 < (n : Int) / 2 ^ wd) = false := by
    rw [show ((n : Int) / 2 ^ wd) = ((n / 2 ^ wd : Nat) : Int) by norm_cast, Nat.div_eq_of_lt hn]; rfl
  have q1 : decide ((wd : Int) < 0) = false := decide_eq_false (by omega)
  have q2 : decide ((32 : Int) < (wd : Int)) = false := decide_eq_false (by omega)
  have q3 : decide ((n : Int) < 0) = false := decide_eq_false (by omega)
  go_wp2_with fail
  refine (high_c n wd _).mono ?_
  rintro e w' ⟨rfl, rfl⟩
  go_wp2_with fail
  obtain ⟨W0, hW0⟩ : ∃ W0, W0 = ((((w1.setCell ⟨w.heap.size + 1, 0, none⟩ (.slice A1 B.length c1)).setCell ⟨w.heap.size + 1, 1, none⟩ (.int .i64 (l.length : Int))).alloc (.cells #[.int .i64 (n : Int)] 3)).alloc (.cells #[.int .i64 (wd : Int)] 3)) := ⟨_, rfl⟩
  rw [← hW0]
  have hsz1 := b1.size
  simp only [World.size_alloc] at hsz1
  have hsz : W0.heap.size = w1.heap.size + 2 := by rw [hW0]; simp [World.setCell]
  have kw : W0.heap[w1.heap.size + 1]? = some (.cells #[.int .i64 (wd : Int)] 3) := by rw [hW0]; exact new_at (by simp [World.setCell]) _
  have kn : W0.heap[w1.heap.size]? = some (.cells #[.int .i64 (n : Int)] 3) := by rw [hW0]; exact old_at (new_at (by simp [World.setCell]) _) _
  have hBW : Below w.heap.size w W0 := by
    rw [hW0]
    exact ((((hB.trans (b1.mono hB.size)).setCell (p := ⟨w.heap.size + 1, 0, none⟩) (by simp) _).setCell (p := ⟨w.heap.size + 1, 1, none⟩) (by simp) _).alloc (by simp [World.setCell]; omega) _).alloc (by simp [World.setCell]; omega) _
  have hg1s : ∀ k, (Value.slice A1 B.length c1).ownBlock = some k → w.heap.size + 2 ≤ k ∧ k < w1.heap.size := fun k hk => by
    have := own_base ho1 hk; simp only [World.size_alloc] at this; omega
  have hAcc : Acc w.heap.size (w.heap.size + 1) (fun k => k = w.heap.size + 1 ∨ (Value.slice A1 B.length c1).ownBlock = some k) W0 l := by
    refine ⟨_, B, ?_, own_base_le (own_later ho1 (fun k hk => ?_)) (by simp; omega), hH, by omega, fun e => by have := hg1s _ e; omega, fun k => Iff.rfl⟩
    · rw [hW0]; exact old_at (old_at (by rw [set_at (set_at g1 0 _) 1]; simp) _) _
    · have := hg1s k hk
      rw [hW0]
      exact (Below.heap_alloc _ _ k (by simp [World.setCell]; omega)).trans ((Below.heap_alloc _ _ k (by simp [World.setCell]; omega)).trans ((Below.heap_setCell _ _ _ k (by simp; omega)).trans (Below.heap_setCell _ _ _ k (by simp; omega))))
  clear hW0 g1 c10 c11 f10 f11 ho1
  refine wp_iter (xs := boolList (numBits n wd)) (Fp := fun k => k = w1.heap.size + 1) (Rd := fun k => k = w1.heap.size) (gf := 53) (lb := #[.pointer (some ⟨w1.heap.size + 1, 0, none⟩), .pointer (some ⟨w1.heap.size, 0, none⟩)]) rfl (enters Try.func53 (by kernel_rfl) rfl)
    (high1 _ _ n wd hw (Nat.lt_of_lt_of_le hn (Nat.pow_le_pow_right (by omega) (by omega))) (by omega)) ?hps
    (fun i O W => Acc w.heap.size (w.heap.size + 1) O W (l ++ (numBits n wd).take i) ∧ Below w.heap.size w W) (fun k => k = w.heap.size + 1 ∨ (Value.slice A1 B.length c1).ownBlock = some k) ?hpre ?hO ?hFp ?hI ?h0
    (fun x => { tmps := #[bv (Value.slice A B.length c) l.length, Value.int IntKind.i64 n, Value.int IntKind.i64 wd,
          Value.pointer (some { block := w.heap.size, off := 0 }), undef, undef,
          Value.pointer (some { block := w.heap.size + 1, off := 0 }), Value.int IntKind.i64 0, Value.bool true, x.getD 0 undef,
          Value.tuple #[bv (Value.slice A1 B.length c1) l.length, Value.bool true],
          Value.agg #[Value.slice A B.length c, Value.int IntKind.i64 l.length],
          Value.tuple #[bv (Value.slice A1 B.length c1) l.length, Value.bool true],
          bv (Value.slice A1 B.length c1) l.length, Value.bool true, Value.bool true, Value.bool false,
          Value.bool false, Value.int IntKind.i64 wd, Value.bool false, Value.bool false, Value.bool false,
          Value.int IntKind.i64 wd, Value.bool false, Value.bool false, Value.bool false, Value.int IntKind.i64 n,
          Value.bool false, Value.bool false, Value.bool false, Value.int IntKind.i64 n, Value.int IntKind.i64 wd,
          Value.int IntKind.i64 ((n : Int) / 2 ^ wd), Value.bool false, Value.bool false, undef, Value.int IntKind.i64 n,
          Value.int IntKind.i64 wd,
          Value.func (Fn.func 53) #[]
            #[Value.pointer (some { block := w1.heap.size + 1, off := 0 }),
              Value.pointer (some { block := w1.heap.size, off := 0 })],
          x.getD 0 undef, undef, undef, undef], defers := [] }) ?assign ?body ?done
  case hps => intro x hx; simp only [boolList, List.mem_map] at hx; obtain ⟨b, _, rfl⟩ := hx; rfl
  case hpre =>
    intro W hW
    refine ⟨below_at hW kw (by omega), ?_, by have := hW.size; omega⟩
    rw [cell_at (below_at hW kn (by omega))]; rfl
  case hO =>
    rintro k (rfl | h)
    · exact ⟨by omega, by omega, by omega⟩
    · have := hg1s k h; exact ⟨by omega, by omega, by omega⟩
  case hFp => rintro k rfl; omega
  case hI =>
    rintro i O W W' ⟨h1, h2⟩ hk
    exact ⟨acc_keep h1 hk (fun k h => .inl h), below_keep h2 hk (Nat.le_refl _) (fun k h => .inr ⟨by omega, by omega⟩)⟩
  case h0 => exact ⟨by simpa using hAcc, hBW⟩
  case assign =>
    intro l' x W K hx hK
    simp only [boolList, List.mem_map] at hx
    obtain ⟨b, _, rfl⟩ := hx
    gi_wp2
    exact hK
  case body =>
    rintro l' i x O W hx ⟨h1, h2⟩ hsz'
    simp only [boolList, List.getElem?_map] at hx
    obtain ⟨b, hbi, rfl⟩ := Option.map_eq_some_iff.1 hx
    have hi : i < wd := by have := (List.getElem?_eq_some_iff.1 hbi).1; rwa [numBits_length] at this
    have hlen : (l ++ (numBits n wd).take i).length ≤ 1000000 := by rw [List.length_append, List.length_take]; omega
    have hT : l ++ (numBits n wd).take (i + 1) = (l ++ (numBits n wd).take i) ++ [b] := by rw [List.take_add_one, hbi, List.append_assoc]; rfl
    have HT := Lib.hid hT
    clear hT hx hbi
    gi_wp2_with fail
    refine ⟨trivial, rfl, (CallsIn.inRound _ (callsIn_wide.2 (add_c _ _ O _ b _ h1 hlen h2.size))).mono ?_⟩
    rintro e W' ⟨rfl, O', hA', hk', ho'⟩
    gi_wp2
    exact ⟨O', ⟨by rw [HT.out]; exact hA', below_keep h2 hk' (Nat.le_refl _) (fun k hk hOk => by
      obtain ⟨v, B2, _, ho2, _, hb2, _, hO2⟩ := h1
      rcases (hO2 k).1 hOk with e | e
      · omega
      · have := (own_base ho2 e).1; omega)⟩, ho', hk'⟩
  case done =>
    rintro D O W ⟨h1, h2⟩ hD1 hD2
    rw [show (boolList (numBits n wd)).length = wd by simp [boolList, numBits], List.take_of_length_le (by rw [numBits_length]; exact Nat.le_refl _)] at h1
    obtain ⟨v, B2, hg, ho, hH2, hbg, hne2, hO2⟩ := h1
    have hll : (((l ++ numBits n wd).length : Nat) : Int) = ((l.length + wd : Nat) : Int) := by rw [List.length_append, numBits_length]
    rw [hll] at hg
    obtain ⟨A2, c2, rfl, _⟩ := (sliceAt_of_own ho).form
    obtain ⟨L, hLL⟩ : ∃ L, l.length + wd = L := ⟨_, rfl⟩
    rw [hLL] at hg
    have HL2 := Lib.hid hLL
    clear hLL hll hr hH
    have hD3 : (Value.slice A2 B2.length c2).ownBlock ≠ some D := by
      intro e
      rcases ho.2 with ⟨h, _⟩ | ⟨gg, cap, cur, h, _, hh, _⟩
      · rw [h] at e; cases e
      · rw [h] at e; cases e; rw [hD2] at hh; cases hh
    have d0 := cell_at hg 0
    have d1 := cell_at hg 1
    have e0 := free_at hg 0
    have e1 := free_at hg 1
    go_wp2
    refine bodyPostM_bits2 rfl (set_far (set_far hD2 (by simp; omega) _) (by simp; omega) _) rfl ((World.putObj_heap_other (by omega)).trans (set_at (set_at hg 0 _) 1 _)) ⟨below_putObj ((h2.setCell (by simp) _).setCell (by simp) _) (by have := hBW.size; omega) _, _, B2, by rw [HL2.out]; rfl, ?_, hH2⟩
    refine own_later ho (fun k hk => ?_)
    have hkg : k ≠ w.heap.size + 1 := fun e => hne2 (by rw [hk, e])
    have hkD : k ≠ D := fun e => hD3 (by rw [hk, e])
    exact (World.putObj_heap_other hkD).trans ((Below.heap_setCell _ _ _ k hkg).trans (Below.heap_setCell _ _ _ k hkg))
end Go.Proofs.Ytioggdiicgfoaaa
