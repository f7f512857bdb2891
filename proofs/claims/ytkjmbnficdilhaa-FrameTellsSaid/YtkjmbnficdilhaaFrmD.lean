/- Frames: Put. -/
import Derived.Test.YtkjmbnficdilhaaFrmC
namespace Go.Proofs.Ytkjmbnficdilhaa
open Go.RowKit Rf Mem Bv Crc Str
attribute [local go_sem ↓] run_max2 run_min2
attribute [local go_sem] Oper.semAt_some
/-- block g holds a slice of the bytes l, in a row that the call owns; O: these blocks -/
def BAcc (base g : Nat) (O : Nat → Prop) (w : World) (l : List (BitVec 8)) : Prop :=
  ∃ v, w.heap[g]? = some (.cells #[v] 22 (0, 0)) ∧ w.ownsRow base 5 1 v l.length (u8s l) ∧ v.ownBlock ≠ some g ∧ ∀ k, O k ↔ (k = g ∨ v.ownBlock = some k)
theorem bacc_keep {base g : Nat} {O S : Nat → Prop} {W W' : World} {l : List (BitVec 8)} (h : BAcc base g O W l) (hk : Keep S W W') (hS : ∀ k, O k → S k) : BAcc base g O W' l := by
  obtain ⟨v, hg, ho, hne, hO⟩ := h
  exact ⟨v, hk.at_ hg (hS g ((hO g).2 (.inl rfl))), own_later ho (fun k hk' => hk.block k (own_base ho hk').2 (hS k ((hO k).2 (.inr hk')))), hne, hO⟩
theorem all_c (k s : Int) (v : Value) (W : World) : Calls Try.prog 20 #[fv k s v] W fun e W' => e = .returned (.func (.func 27) #[] #[.pointer (some ⟨W.heap.size, 0, none⟩)]) ∧ W.alloc (.cells #[.int .u8 k, .int .u8 s, v] 24) = W' := by
  obtain h | h : True ∨ True := .inl trivial
  all_goals
    go_enter Try.func20, Try.ntmps20
    go_wp2
    go_ret
    exact ⟨rfl, rfl⟩
theorem res_put {fn : Func} {t u : Tmp} (hf : fn.results = #[.cell t 22, .tmp u]) {tmps : Array Value} {W : World} {g : Nat} {x : Value} {f : Nat × Nat} (hs : tmps.getD t undef = .pointer (some ⟨g, 0, none⟩)) (hg : W.heap[g]? = some (.cells #[x] 22 f)) :
    (results fn tmps).run Try.prog W = .ok (.tuple #[x, tmps.getD u undef]) W := by
  have hs' : tmps[t]?.getD undef = .pointer (some ⟨g, 0, none⟩) := by simpa using hs
  have c0 := cell_at hg 0
  simp only [List.getElem?_toArray, List.getElem?_cons_zero] at c0
  simp [results, hf, hs', asAddr, go_sem, c0]
theorem bodyPostM_put0 {fn : Func} {R : Ending → World → Prop} {t u : Tmp} (hf : fn.results = #[.cell t 22, .tmp u]) {tmps : Array Value} {g : Nat} {W : World} {x : Value} {f : Nat × Nat}
    (hs : tmps.getD t undef = .pointer (some ⟨g, 0, none⟩)) (hg : W.heap[g]? = some (.cells #[x] 22 f)) (h : R (.returned (.tuple #[x, tmps.getD u undef])) W) :
    bodyPostM Fence.wide 0 Try.prog fn R .ret { tmps := tmps, defers := [] } W := ⟨_, res_put hf hs hg, h⟩
theorem bodyPostM_put {fn : Func} {R : Ending → World → Prop} {t u : Tmp} (hf : fn.results = #[.cell t 22, .tmp u]) {tmps : Array Value} {D g : Nat} {W : World} {x : Value} {f : Nat × Nat}
    (hD : W.heap[D]? = some (.deferred (some []))) (hs : tmps.getD t undef = .pointer (some ⟨g, 0, none⟩)) (hg : (W.putObj D (.deferred none)).heap[g]? = some (.cells #[x] 22 f))
    (h : R (.returned (.tuple #[x, tmps.getD u undef])) (W.putObj D (.deferred none))) :
    bodyPostM Fence.wide 0 Try.prog fn R .ret { tmps := tmps, defers := [{ target := .collected D, args := #[] }] } W := by
  refine ⟨by simp, .inl ⟨_, _, rfl, run_takeDeferred hD, ?_⟩⟩
  exact ⟨_, res_put hf hs hg, h⟩
set_option maxHeartbeats 1000000 in
set_option maxRecDepth 100000 in
theorem Put_bad (k s : Int) (v : Value) (p : List (BitVec 8)) (w : World) (hs : SliceAt w 1 v p.length (u8s p)) (h : rightF k p.length = false) :
    Calls Try.prog 5 #[fv k s v] w fun e w' => Below w.heap.size w w' ∧ e = .returned (.tuple #[.slice none 0 0, .int .i64 2]) := by
  have hB := below_two w (.cells #[.int .u8 k, .int .u8 s, v] 24) (.cells #[.slice none 0 0] 22)
  have hs' := hs.later hB
  obtain ⟨A, c, rfl, _⟩ := hs.form
  clear hs
  refine (callsIn_wide (n := 0)).1 (callsIn_of_wp_marks Try.func5 rfl trivial ?_ rfl)
  refine wpIn_wide.2 ?_
  simp only [Try.ntmps5, List.size_toArray, List.length_cons, List.length_nil, Nat.reduceAdd, Nat.reduceSub, Array.replicate_succ, Array.replicate_zero, List.push_toArray, List.append_toArray, List.nil_append, List.cons_append]
  go_wp2_with fail
  refine (Right_c k s _ p _ hs').mono ?_
  rintro e w1 ⟨rfl, b1⟩
  rw [h]
  have g1 := below_at b1 (k := w.heap.size + 1) (o := .cells #[.slice none 0 0] 22) (new_at (by simp) _) (by simp)
  have d0 := cell_at g1 0
  have e0 := free_at g1 0
  go_wp2
  refine bodyPostM_put0 (t := 2) (u := 3) rfl rfl (set_at g1 0 _) ⟨?_, rfl⟩
  exact (hB.trans (b1.mono hB.size)).setCell (by simp) _
set_option maxHeartbeats 1000000 in
set_option maxRecDepth 100000 in
theorem Put_good (k s : BitVec 8) (v : Value) (p : List (BitVec 8)) (w : World) (hs : SliceAt w 1 v p.length (u8s p)) (h : rightF k.toNat p.length = true) :
    Calls Try.prog 5 #[fv k.toNat s.toNat v] w fun e w' => Below w.heap.size w w' ∧
      ∃ v', e = .returned (.tuple #[v', .int .i64 0]) ∧ w'.ownsRow w.heap.size 5 1 v' (Crc.close (hb k s p)).length (u8s (Crc.close (hb k s p))) := by
  obtain ⟨i0, hi, hz0, hz1, hz2⟩ := info_parts info_u8
  have hl : p.length ≤ 59 := by unfold rightF at h; simp at h; exact h.2
  have hB := below_two w (.cells #[.int .u8 (k.toNat : Int), .int .u8 (s.toNat : Int), v] 24) (.cells #[.slice none 0 0] 22)
  have hs' := hs.later hB
  obtain ⟨A, c, rfl, _⟩ := hs.form
  have hvb : ∀ q, VB (.slice A p.length c) p.length q → q < w.heap.size := fun q hq => vblock_lt hs hq
  clear hs
  refine (callsIn_wide (n := 0)).1 (callsIn_of_wp_marks Try.func5 rfl trivial ?_ rfl)
  refine wpIn_wide.2 ?_
  simp only [Try.ntmps5, List.size_toArray, List.length_cons, List.length_nil, Nat.reduceAdd, Nat.reduceSub, Array.replicate_succ, Array.replicate_zero, List.push_toArray, List.append_toArray, List.nil_append, List.cons_append]
  go_wp2_with fail
  refine (Right_c _ _ _ p _ hs').mono ?_
  rintro e w1 ⟨rfl, b1⟩
  rw [h]
  have g0 := below_at b1 (k := w.heap.size) (o := .cells #[.int .u8 (k.toNat : Int), .int .u8 (s.toNat : Int), .slice A p.length c] 24) (old_at (new_at rfl _) _) (by simp; omega)
  have g1 := below_at b1 (k := w.heap.size + 1) (o := .cells #[.slice none 0 0] 22) (new_at (by simp) _) (by simp)
  have d0 := cell_at g0 0
  have d1 := cell_at g0 1
  have d2 := cell_at g0 2
  go_wp2_with fail
  refine (all_c _ _ _ _).mono ?_
  rintro e w' ⟨rfl, rfl⟩
  go_wp2_with fail
  obtain ⟨W0, hW0⟩ : ∃ W0, W0 = w1.alloc (.cells #[.int .u8 (k.toNat : Int), .int .u8 (s.toNat : Int), .slice A p.length c] 24) := ⟨_, rfl⟩
  rw [← hW0]
  have hsz1 := b1.size
  simp only [World.size_alloc] at hsz1
  have hsz : W0.heap.size = w1.heap.size + 1 := by rw [hW0]; simp
  have hBW : Below w.heap.size w W0 := by rw [hW0]; exact (hB.trans (b1.mono hB.size)).alloc (by omega) _
  have kb : W0.heap[w.heap.size + 1]? = some (.cells #[.slice none 0 0] 22) := by rw [hW0]; exact old_at g1 _
  have kf : FVar W0 w1.heap.size k.toNat s.toNat (.slice A p.length c) p := by rw [hW0]; exact FVar.new (hs'.later b1)
  have HVB := Lib.hid hvb
  clear hW0 g0 g1 d0 d1 d2 hvb
  refine wp_iter (xs := byteList (hb k s p)) (Fp := fun _ => False) (Rd := fun q => q = w1.heap.size ∨ VB (.slice A p.length c) p.length q) (gf := 27) (lb := #[.pointer (some ⟨w1.heap.size, 0, none⟩)]) rfl (enters Try.func27 (by kernel_rfl) rfl)
    (all1 _ k s _ p (by omega)) ?hps
    (fun i O W => BAcc (w.heap.size + 1) (w.heap.size + 1) O W ((hb k s p).take i) ∧ Below w.heap.size w W) (fun q => q = w.heap.size + 1) ?hpre ?hO ?hFp ?hI ?h0
    (fun x => { tmps := #[fv (↑k.toNat) (↑s.toNat) (Value.slice A p.length c), Value.pointer (some { block := w.heap.size, off := 0 }),
          Value.pointer (some { block := w.heap.size + 1, off := 0 }), Value.int IntKind.i64 0, x.getD 0 undef,
          Value.agg #[Value.int IntKind.u8 ↑k.toNat, Value.int IntKind.u8 ↑s.toNat, Value.slice A p.length c],
          Value.bool true, Value.bool false,
          Value.agg #[Value.int IntKind.u8 ↑k.toNat, Value.int IntKind.u8 ↑s.toNat, Value.slice A p.length c],
          Value.func (Fn.func 27) #[] #[Value.pointer (some { block := w1.heap.size, off := 0 })], x.getD 0 undef, undef, undef,
          undef, undef, undef, undef], defers := [] }) ?assign ?body ?done
  case hps => intro x hx; simp only [byteList, List.mem_map] at hx; obtain ⟨b, _, rfl⟩ := hx; rfl
  case hpre =>
    intro W hW
    exact ⟨kf.later (hW.mono (Nat.le_refl _)), fun q hq => by have := HVB.out q hq; have := hW.size; omega⟩
  case hO =>
    rintro q rfl
    exact ⟨by omega, id, fun h => by
      rcases h with h | h
      · omega
      · have := HVB.out _ h; omega⟩
  case hFp => rintro q ⟨⟩
  case hI =>
    rintro i O W W' ⟨h1, h2⟩ hk
    exact ⟨bacc_keep h1 hk (fun q h => .inl h), below_keep h2 hk (Nat.le_refl _) (fun q h => .inr ⟨by omega, id⟩)⟩
  case h0 =>
    refine ⟨⟨.slice none 0 0, kb, own_nil _ _ _ _, ?_, fun q => ⟨.inl, ?_⟩⟩, hBW⟩
    · intro e; cases e
    · rintro (h | h)
      · exact h
      · cases h
  case assign =>
    intro l' x W K hx hK
    simp only [byteList, List.mem_map] at hx
    obtain ⟨b, _, rfl⟩ := hx
    gi_wp2
    exact hK
  case body =>
    rintro l' i x O W hx ⟨h1, h2⟩ hsz'
    simp only [byteList, List.getElem?_map] at hx
    obtain ⟨b, hbi, rfl⟩ := Option.map_eq_some_iff.1 hx
    have hi : i < (hb k s p).length := (List.getElem?_eq_some_iff.1 hbi).1
    have hlen : ((hb k s p).take i).length ≤ 62 := by rw [List.length_take]; simp [hb] at hi; omega
    have hT : (hb k s p).take (i + 1) = (hb k s p).take i ++ [b] := by rw [List.take_add_one, hbi]; rfl
    have HT := Lib.hid hT
    clear hT hx hbi hi
    generalize (hb k s p).take i = l0 at *
    obtain ⟨v, hg, ho, hne, hO2⟩ := h1
    obtain ⟨A0, c0, rfl, _⟩ := (sliceAt_of_own ho).form
    have e0 := cell_at hg 0
    have f0 := free_at hg 0
    have hgs : w.heap.size + 1 < W.heap.size := (Array.getElem?_eq_some_iff.1 hg).1
    have hown := own_later (w' := W.alloc (.cells #[.int .u8 (b.toNat : Int)] 5)) ho (fun q hq => Below.heap_alloc _ _ _ (own_base ho hq).2)
    have hgA := old_at hg (.cells #[.int .u8 (b.toNat : Int)] 5)
    gi_wp2_with (gi_at_builtin; refine wpListIn_append_src (by rfl) (.tmp 11) (.tmp 13) _ (by rfl) (w.heap.size + 1) 5 i0 _ 1 1 Try.underlying22 hi hz0 hz1 hz2 rfl (by omega) (.slice A0 l0.length c0) l0.length (u8s l0) (by rfl) hown (.slice (some ⟨W.heap.size, 0, none⟩) 1 1) 1 [.int .u8 (b.toNat : Int)] (by rfl) (sliceAt_blk (new_at rfl _) rfl (by simp [maxLen])) (by simp [Value.oneCell']) (by simp only [maxLen]; omega) (by omega) (by simp; omega) ?_; intro v1 w2 ho1 hg1 hw1; obtain ⟨A1, k1, rfl, _, _⟩ := (sliceAt_of_own ho1).form; have hgB := (hg1.block _ (by simp; omega) (fun e => hne e.symm)).trans hgA; have e1 := cell_at hgB 0; have f1 := free_at hgB 0)
    have hnew : (W.alloc (.cells #[.int .u8 (b.toNat : Int)] 5)).heap.size = W.heap.size + 1 := by simp
    have hne1 : (Value.slice A1 (l0.length + 1) k1).ownBlock ≠ some (w.heap.size + 1) := by
      rcases hw1 with h | h
      · rw [h]; exact hne
      · rw [h, hnew]; intro e; have := Option.some.inj e; omega
    have hK : Keep (fun q => ¬ O q) W (w2.setCell ⟨w.heap.size + 1, 0, none⟩ (.slice A1 (l0.length + 1) k1)) :=
      (((Keep.refl _ W).alloc _).grown hg1 (fun q hq _ h => h ((hO2 q).2 (.inr hq)))).setCell (fun _ h => h ((hO2 _).2 (.inl rfl))) _
    have el : (l0 ++ [b]).length = l0.length + 1 := by simp
    have eu : u8s (l0 ++ [b]) = u8s l0 ++ [.int .u8 (b.toNat : Int)] := by simp [u8s]
    refine ⟨fun q => q = w.heap.size + 1 ∨ (Value.slice A1 (l0.length + 1) k1).ownBlock = some q, ⟨?_, below_keep h2 hK (Nat.le_refl _) (fun q hq hOq => ?_)⟩, fun q hq => ?_, hK⟩
    · rw [HT.out]
      refine ⟨_, ?_, ?_, hne1, fun q => Iff.rfl⟩
      · rw [set_at hgB 0]; rfl
      · rw [el, eu]
        exact own_later ho1 (fun q hq => Below.heap_setCell _ _ _ q (by rintro rfl; exact hne1 hq))
    · rcases (hO2 q).1 hOq with h | h
      · omega
      · have := (own_base ho h).1; omega
    · rcases hq with h | h
      · exact .inl ((hO2 q).2 (.inl h))
      · rcases hw1 with h' | h'
        · rw [h'] at h; exact .inl ((hO2 q).2 (.inr h))
        · rw [h', hnew] at h; have := Option.some.inj h; exact .inr (by omega)
  case done =>
    rintro D O W ⟨h1, h2⟩ hD1 hD2
    have hlen : (byteList (hb k s p)).length = (hb k s p).length := by simp [byteList]
    rw [hlen, List.take_of_length_le (Nat.le_refl _)] at h1
    obtain ⟨v, hg, ho, hne, hO2⟩ := h1
    have hl62 : (hb k s p).length ≤ 62 := by simp [hb]; omega
    clear hlen
    obtain ⟨l0, hl0⟩ : ∃ l0, hb k s p = l0 := ⟨_, rfl⟩
    rw [hl0] at ho hl62
    have HL0 := Lib.hid hl0
    clear hl0
    obtain ⟨A0, c0, rfl, _⟩ := (sliceAt_of_own ho).form
    have e0 := cell_at hg 0
    have f0 := free_at hg 0
    go_wp2_with fail
    refine (Close_c _ l0 _ (sliceAt_of_own ho) (by omega)).mono ?_
    rintro e w3 ⟨v3, rfl, ho3, b3⟩
    obtain ⟨A3, c3, rfl, _⟩ := (sliceAt_of_own ho3).form
    have hgs : w.heap.size + 1 < W.heap.size := (Array.getElem?_eq_some_iff.1 hg).1
    have hDs : D < W.heap.size := (Array.getElem?_eq_some_iff.1 hD2).1
    have hg3 := below_at b3 hg hgs
    have hD3 := below_at b3 hD2 hDs
    have e1 := cell_at hg3 0
    have f1 := free_at hg3 0
    clear e0 f0
    go_wp2
    refine bodyPostM_put (t := 2) (u := 3) rfl (set_far hD3 (by simp; omega) _) rfl ((World.putObj_heap_other (by omega)).trans (set_at hg3 0 _)) ⟨below_putObj ((h2.trans (b3.mono h2.size)).setCell (by simp) _) (by have := hBW.size; omega) _, _, rfl, ?_⟩
    rw [HL0.out, show (Crc.close l0).length = l0.length + 2 by simp [Crc.close]]
    refine own_base_le (own_later ho3 (fun q hq => ?_)) h2.size
    have := (own_base ho3 hq).1
    exact (World.putObj_heap_other (by omega)).trans (Below.heap_setCell _ _ _ q (by simp; omega))
theorem refPut_bad (k s : Int) (v : Value) (p : List (BitVec 8)) (w : World) (hs : SliceAt w 1 v p.length (u8s p)) (h : rightF k p.length = false) :
    Calls Try.prog 6 #[fv k s v] w fun e w' => Below w.heap.size w w' ∧ e = .returned (.tuple #[.slice none 0 0, .int .i64 2]) := by
  have hB := below_new w (.cells #[.int .u8 k, .int .u8 s, v] 24)
  have hs' := hs.later hB
  obtain ⟨A, c, rfl, _⟩ := hs.form
  clear hs
  go_enter Try.func6, Try.ntmps6
  go_wp2_with fail
  refine (refRight_c k s _ p _ hs').mono ?_
  rintro e w1 ⟨rfl, b1⟩
  rw [h]
  go_wp2
  go_ret2
  exact ⟨below_step hB b1, rfl⟩
set_option maxHeartbeats 1000000 in
set_option maxRecDepth 100000 in
theorem refPut_good (k s : BitVec 8) (v : Value) (p : List (BitVec 8)) (w : World) (hs : SliceAt w 1 v p.length (u8s p)) (h : rightF k.toNat p.length = true) :
    Calls Try.prog 6 #[fv k.toNat s.toNat v] w fun e w' => Below w.heap.size w w' ∧
      ∃ v', e = .returned (.tuple #[v', .int .i64 0]) ∧ w'.ownsRow w.heap.size 5 1 v' (Crc.close (hb k s p)).length (u8s (Crc.close (hb k s p))) := by
  obtain ⟨i0, hi, hz0, hz1, hz2⟩ := info_parts info_u8
  have hl : p.length ≤ 59 := by unfold rightF at h; simp at h; exact h.2
  have V := FVar.new (k := k.toNat) (s := s.toNat) hs
  have hB := below_new w (.cells #[.int .u8 (k.toNat : Int), .int .u8 (s.toNat : Int), v] 24)
  obtain ⟨A, c, rfl, _⟩ := hs.form
  have hw8 : IntKind.u8.wrap (p.length : Int) = (p.length : Int) := Bv.wrap_small .u8 rfl (by omega) (by simp [IntKind.bits]; omega)
  clear hs
  go_enter Try.func6, Try.ntmps6
  go_wp2_with fail
  refine (refRight_c _ _ _ p _ V.sl).mono ?_
  rintro e w1 ⟨rfl, b1⟩
  rw [h]
  replace V := V.later b1
  have x0 := V.c0
  have x1 := V.c1
  have x2 := V.c2
  have hbn := below_new w1 (.cells #[.int .u8 (k.toNat : Int), .int .u8 (s.toNat : Int), .int .u8 (p.length : Int)] 5)
  have x3 := (V.later hbn).c2
  have hsrc := (V.later hbn).sl
  have hown : (w1.alloc (.cells #[.int .u8 (k.toNat : Int), .int .u8 (s.toNat : Int), .int .u8 (p.length : Int)] 5)).ownsRow w1.heap.size 5 1 (.slice (some ⟨w1.heap.size, 0, none⟩) 3 3) 3 [.int .u8 (k.toNat : Int), .int .u8 (s.toNat : Int), .int .u8 (p.length : Int)] :=
    ⟨by simp, .inr ⟨w1.heap.size, 3, _, rfl, Nat.le_refl _, new_at rfl _, by simp, by simp [maxLen], by simp, by simp⟩⟩
  have el : (hb k s p).length = 3 + p.length := by simp [hb]; omega
  have eu : u8s (hb k s p) = [.int .u8 (k.toNat : Int), .int .u8 (s.toNat : Int), .int .u8 (p.length : Int)] ++ u8s p := by
    unfold hb u8s
    rw [List.map_cons, List.map_cons, List.map_cons, BitVec.toNat_ofNat, Nat.mod_eq_of_lt (show p.length < 2 ^ 8 by omega)]; rfl
  have EL := Lib.hid el
  have EU := Lib.hid eu
  have ecl : (Crc.close (hb k s p)).length = (hb k s p).length + 2 := by simp [Crc.close]
  have ECL := Lib.hid ecl
  clear el eu ecl
  go_wp2_with (at_builtin; refine wpList_append_src (by rfl) (.tmp 15) (.tmp 17) _ (by rfl) w1.heap.size 5 i0 _ 1 1 Try.underlying22 hi hz0 hz1 hz2 rfl (by omega) (.slice (some ⟨w1.heap.size, 0, none⟩) 3 3) 3 [.int .u8 (k.toNat : Int), .int .u8 (s.toNat : Int), .int .u8 (p.length : Int)] (by rfl) hown (.slice A p.length c) p.length (u8s p) (by rfl) hsrc (u8s_one p) (by simp only [maxLen]; omega) (by omega) (by simp) ?_; intro v1 w2 ho1 hg1 hw1; obtain ⟨A1, k1, rfl, _, _⟩ := (sliceAt_of_own ho1).form)
  have b2 := below_own (hbn) hg1 (by simp) (by intro g hg; cases hg; exact Nat.le_refl _)
  rw [← EU.out, ← EL.out] at ho1
  rw [← EL.out]
  refine (refClose_c _ (hb k s p) _ (sliceAt_of_own ho1) (by rw [EL.out]; omega)).mono ?_
  rintro e w3 ⟨v3, rfl, ho3, b3⟩
  go_wp2
  go_ret2
  rw [ECL.out]
  refine ⟨below_step (below_step (below_step hB b1) b2) b3, v3, rfl, own_base_le ho3 ?_⟩
  have := hB.size; have := b1.size; have := b2.size; omega
end Go.Proofs.Ytkjmbnficdilhaa
