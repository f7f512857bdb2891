/- An argument that is a layout, an image: from the reading of its cells to plain words. No condition. -/
import Derived.Test.YtppcdmbpbbjecaaGreatAspB
import Derived.Test.YtppcdmbpbbjecaaGreatArg
namespace Go.Proofs.YtppcdmbpbbjecaaGreat
open Go.RowKit Rf Mem Go.ChangeShapes Go.WideShapes Bv
section
variable {H : Type} {enc : TypeId × Value → H} {P : Program} {w : World}
def AllOne (cs : List Value) : Prop := ∀ u ∈ cs, u.oneCell' = true
theorem all_int {t fuel : Nat} {k : IntKind} {cs : List Value} {x : DataW H × List MemPlace} (ht : P.underlying t = some (.int k)) (h : DataW.trod enc P w 0 (fun _ => true) true fuel t cs = some x) : AllOne cs := by
  obtain ⟨n, rfl, _⟩ := DataW.trod_int ht h
  intro u hu
  simp at hu
  subst hu; rfl
theorem all_slice {t e fuel : Nat} {cs : List Value} {x : DataW H × List MemPlace} (ht : P.underlying t = some (.slice e)) (h : DataW.trod enc P w 0 (fun _ => true) true fuel t cs = some x) : AllOne cs := by
  obtain ⟨a, l, c, rfl⟩ := Joins.slice_form ht h
  intro u hu
  simp at hu
  subst hu; rfl
theorem all_array {t e n fuel : Nat} {cs : List Value} {x : DataW H × List MemPlace} (ht : P.underlying t = some (.array n e)) (hc : P.cellsOf t = n * P.cellsOf e)
    (he : ∀ (m : Nat) (cs : List Value) (x : DataW H × List MemPlace), DataW.trod enc P w 0 (fun _ => true) true m e cs = some x → AllOne cs) (h : DataW.trod enc P w 0 (fun _ => true) true fuel t cs = some x) : AllOne cs := by
  obtain ⟨ys, m, _, _, hl, hlen, hel⟩ := DataW.trod_array ht h
  intro u hu
  obtain ⟨i, hi⟩ := List.getElem?_of_mem hu
  have hlt := (List.getElem?_eq_some_iff.1 hi).1
  generalize P.cellsOf e = sz at *
  have hsz : 0 < sz := by
    rcases Nat.eq_zero_or_pos sz with h0 | h0
    · subst h0; simp at hc; omega
    · exact h0
  have hq : i / sz < n := Nat.div_lt_of_lt_mul (by rw [Nat.mul_comm]; omega)
  have h1 := hel (i / sz) hq
  obtain ⟨y, hy⟩ : ∃ y, ys[i / sz]? = some y := ⟨_, List.getElem?_eq_getElem (by omega)⟩
  refine he m _ y (h1.trans hy) u (List.mem_of_getElem? (i := i % sz) ?_)
  rw [List.getElem?_take, if_pos (Nat.mod_lt _ hsz), List.getElem?_drop, Nat.mul_comm, Nat.div_add_mod]
  exact hi
theorem all_struct {t fuel : Nat} {fs : Array Field} {cs : List Value} {x : DataW H × List MemPlace} (ht : P.underlying t = some (.struct fs))
    (hcov : ((List.range (P.cellsOf t)).all fun i => fs.toList.any fun f => decide (f.offset ≤ i) && decide (i < f.offset + P.cellsOf f.type)) = true)
    (he : ∀ f ∈ fs.toList, ∀ (m : Nat) (cs : List Value) (x : DataW H × List MemPlace), DataW.trod enc P w 0 (fun _ => true) true m f.type cs = some x → AllOne cs) (h : DataW.trod enc P w 0 (fun _ => true) true fuel t cs = some x) : AllOne cs := by
  obtain ⟨ys, m, _, _, hl, hlen, hel⟩ := DataW.trod_struct ht h
  intro u hu
  obtain ⟨i, hi⟩ := List.getElem?_of_mem hu
  have hlt := (List.getElem?_eq_some_iff.1 hi).1
  have h1 := List.all_eq_true.1 hcov i (by rw [List.mem_range]; omega)
  obtain ⟨f, hf, h2⟩ := List.any_eq_true.1 h1
  simp only [Bool.and_eq_true, decide_eq_true_eq] at h2
  obtain ⟨j, hj⟩ := List.getElem?_of_mem hf
  have hj' : fs[j]? = some f := by simpa using hj
  have h3 := hel j f hj'
  obtain ⟨y, hy⟩ : ∃ y, ys[j]? = some y := ⟨_, List.getElem?_eq_getElem (by have := (Array.getElem?_eq_some_iff.1 hj').1; omega)⟩
  refine he f hf m _ y (h3.trans hy) u (List.mem_of_getElem? (i := i - f.offset) ?_)
  rw [List.getElem?_take, if_pos (by omega), List.getElem?_drop, show f.offset + (i - f.offset) = i by omega]
  exact hi
end
section
variable {H : Type} {enc : TypeId × Value → H} {w : World}
theorem port_one {m : Nat} {cs : List Value} {x : DataW H × List MemPlace} (h : DataW.trod enc Tryz.prog w 0 (fun _ => true) true m 66 cs = some x) : AllOne cs := by
  refine all_struct Tryz.underlying66 (by kernel_rfl) (fun f hf m cs x h => ?_) h
  simp only [List.mem_cons, List.not_mem_nil, or_false] at hf
  rcases hf with rfl | rfl
  all_goals exact all_int Tryz.underlying3 h
theorem sec_one {m : Nat} {cs : List Value} {x : DataW H × List MemPlace} (h : DataW.trod enc Tryz.prog w 0 (fun _ => true) true m 96 cs = some x) : AllOne cs := by
  refine all_struct Tryz.underlying96 (by kernel_rfl) (fun f hf m cs x h => ?_) h
  simp only [List.mem_cons, List.not_mem_nil, or_false] at hf
  rcases hf with rfl | rfl | rfl
  · exact all_int Tryz.underlying5 h
  · exact all_array Tryz.underlying93 (by kernel_rfl) (fun _ _ _ h => port_one h) h
  · exact all_array Tryz.underlying94 (by kernel_rfl) (fun _ _ _ h => all_int Tryz.underlying3 h) h
theorem times_one {m : Nat} {cs : List Value} {x : DataW H × List MemPlace} (h : DataW.trod enc Tryz.prog w 0 (fun _ => true) true m 27 cs = some x) : AllOne cs := by
  refine all_struct Tryz.underlying27 (by kernel_rfl) (fun f hf m cs x h => ?_) h
  simp only [List.mem_cons, List.not_mem_nil, or_false] at hf
  rcases hf with rfl | rfl | rfl | rfl | rfl | rfl | rfl
  all_goals exact all_int Tryz.underlying3 h
theorem lay_one {m : Nat} {cs : List Value} {x : DataW H × List MemPlace} (h : DataW.trod enc Tryz.prog w 0 (fun _ => true) true m 29 cs = some x) : AllOne cs := by
  refine all_struct Tryz.underlying29 (by kernel_rfl) (fun f hf m cs x h => ?_) h
  simp only [List.mem_cons, List.not_mem_nil, or_false] at hf
  rcases hf with rfl | rfl | rfl | rfl | rfl
  · exact all_slice Tryz.underlying22 h
  · exact all_slice Tryz.underlying23 h
  · exact all_slice Tryz.underlying24 h
  · exact all_slice Tryz.underlying25 h
  · exact times_one h
/-- the kind of a section -/
def kindOf (l : List Value) : Int := match l[0]? with | some (Value.int _ z) => z | _ => 0
/-- the length of an exit's overlap -/
def lenOf (l : List Value) : Nat := match l[2]? with | some (Value.slice _ n _) => n | _ => 0
abbrev Sec := { l : List Value // l.length = 11 }
abbrev Exi := { l : List Value // l.length = 3 }
theorem open_secs {m : Nat} {cs : List Value} {x : DataW H × List MemPlace} (h : DataW.trod enc Tryz.prog w 0 (fun _ => true) true m 22 cs = some x) :
    ∃ (v : Value) (xs : List Sec), cs = [v] ∧ SliceAt w 11 v xs.length (xs.flatMap (·.1)) ∧ ∀ a ∈ xs, AllOne a.1 ∧ a.1[0]? = some (.int .u8 (kindOf a.1)) := by
  refine open_cs (sz := 11) (fun a : Sec => a.1) (fun a => AllOne a.1 ∧ a.1[0]? = some (.int .u8 (kindOf a.1))) (fun a => a.2) (by omega) Tryz.underlying22 (by kernel_rfl) (fun m cs x hl ht => ?_) h
  refine ⟨⟨cs, hl⟩, ⟨sec_one ht, ?_⟩, rfl⟩
  obtain ⟨ys, n, _, _, _, hlen, hel⟩ := DataW.trod_struct Tryz.underlying96 ht
  have h0 := hel 0 _ rfl
  obtain ⟨y, hy⟩ : ∃ y, ys[0]? = some y := ⟨_, List.getElem?_eq_getElem (by rw [hlen]; decide)⟩
  obtain ⟨z, hz, _⟩ := DataW.trod_int Tryz.underlying5 (h0.trans hy)
  have hc : Tryz.prog.cellsOf 5 = 1 := by kernel_rfl
  have h1 : cs[0]? = some (.int .u8 z) := by
    have := congrArg (·[0]?) hz
    simp only [hc, List.drop_zero, List.getElem?_take] at this
    exact (by simpa using this : _ ∧ _).2
  simp only [kindOf, h1]
theorem open_exits {m : Nat} {cs : List Value} {x : DataW H × List MemPlace} (h : DataW.trod enc Tryz.prog w 0 (fun _ => true) true m 24 cs = some x) :
    ∃ (v : Value) (xs : List Exi), cs = [v] ∧ SliceAt w 3 v xs.length (xs.flatMap (·.1)) ∧ ∀ a ∈ xs, ∃ A c, a.1[2]? = some (.slice A (lenOf a.1) c) := by
  refine open_cs (sz := 3) (fun a : Exi => a.1) (fun a => ∃ A c, a.1[2]? = some (.slice A (lenOf a.1) c)) (fun a => a.2) (by omega) Tryz.underlying24 (by kernel_rfl) (fun m cs x hl ht => ?_) h
  refine ⟨⟨cs, hl⟩, ?_, rfl⟩
  obtain ⟨ys, n, _, _, _, hlen, hel⟩ := DataW.trod_struct Tryz.underlying69 ht
  have h0 := hel 1 _ rfl
  obtain ⟨y, hy⟩ : ∃ y, ys[1]? = some y := ⟨_, List.getElem?_eq_getElem (by rw [hlen]; decide)⟩
  obtain ⟨A, l, c, hz⟩ := Joins.slice_form Tryz.underlying67 (h0.trans hy)
  have hc : Tryz.prog.cellsOf 67 = 1 := by kernel_rfl
  have h1 : cs[2]? = some (.slice A l c) := by
    have := congrArg (·[0]?) hz
    simp only [hc, List.getElem?_take, List.getElem?_drop] at this
    exact (by simpa using this : _ ∧ _).2
  exact ⟨A, c, by simp only [lenOf, h1]⟩
/-- the rows of sections and of exits, as the walks want them -/
theorem secs_of {v : Value} {xs : List Sec} (h : SliceAt w 11 v xs.length (xs.flatMap (·.1))) (hk : ∀ a ∈ xs, AllOne a.1 ∧ a.1[0]? = some (.int .u8 (kindOf a.1))) :
    ∃ A c, v = .slice A (xs.map (fun a : Sec => kindOf a.1)).length c ∧ SecsAt w (.slice A (xs.map (fun a : Sec => kindOf a.1)).length c) (xs.map (fun a : Sec => kindOf a.1)) ∧ SecsR w (.slice A (xs.map (fun a : Sec => a.1)).length c) (xs.map (fun a : Sec => a.1)) := by
  obtain ⟨A, c, rfl, h1, h2, h3, h4⟩ := h
  have hget : ∀ (k : Nat) (a : Sec), xs[k]? = some a → ∀ j u, a.1[j]? = some u → (xs.flatMap (·.1))[k * 11 + j]? = some u := fun k a ha j u hu => by
    have hj : j < 11 := by have := (List.getElem?_eq_some_iff.1 hu).1; rwa [a.2] at this
    rw [flatMap_get (fun a _ => a.2) k j hj, ha]; exact hu
  refine ⟨A, c, by simp, ⟨A, c, rfl, by simpa using h1, h2, ?_⟩, ⟨A, c, rfl, by simpa using h1, h2, fun s hs => ?_, ?_⟩⟩
  · rcases h4 with h4 | ⟨b, off, rfl, hb, hc⟩
    · exact .inl (by simpa using h4)
    · refine .inr ⟨b, off, rfl, hb, fun k z hz => ?_⟩
      rw [List.getElem?_map] at hz
      obtain ⟨a, ha, rfl⟩ := Option.map_eq_some_iff.1 hz
      have := hc (k * 11 + 0) _ (hget k a ha 0 _ (hk a (List.mem_of_getElem? ha)).2)
      simpa using this
  · obtain ⟨a, ha, rfl⟩ := List.mem_map.1 hs
    exact ⟨a.2, (hk a ha).1⟩
  · rcases h4 with h4 | ⟨b, off, rfl, hb, hc⟩
    · exact .inl (by simpa using h4)
    · refine .inr ⟨b, off, rfl, hb, fun k s hs => ?_⟩
      rw [List.getElem?_map] at hs
      obtain ⟨a, ha, rfl⟩ := Option.map_eq_some_iff.1 hs
      intro j u hu
      have := hc _ u (hget k a ha j u hu)
      rwa [← Nat.add_assoc] at this
theorem exits_of {v : Value} {xs : List Exi} (h : SliceAt w 3 v xs.length (xs.flatMap (·.1))) (hk : ∀ a ∈ xs, ∃ A c, a.1[2]? = some (.slice A (lenOf a.1) c)) :
    ExsAt w v (xs.map (fun a : Exi => lenOf a.1)) := by
  obtain ⟨A, c, rfl, h1, h2, h3, h4⟩ := h
  refine ⟨A, c, by simp, by simpa using h1, h2, ?_⟩
  rcases h4 with h4 | ⟨b, off, rfl, hb, hc⟩
  · exact .inl (by simpa using h4)
  · refine .inr ⟨b, off, rfl, hb, fun k n hn => ?_⟩
    rw [List.getElem?_map] at hn
    obtain ⟨a, ha, rfl⟩ := Option.map_eq_some_iff.1 hn
    obtain ⟨A', c', h5⟩ := hk a (List.mem_of_getElem? ha)
    refine ⟨A', c', ?_⟩
    have := hc (k * 3 + 2) _ (by rw [flatMap_get (fun a _ => a.2) k 2 (by omega), ha]; exact h5)
    rwa [← Nat.add_assoc] at this
/-- a layout, as the walks want it -/
structure LayA (w : World) (L : List Value) (kinds : List Int) (ss : List (List Value)) (lens : List Nat) (nsig nfl : Nat) (clr st : Int) (A : Option Addr) (c : Nat) (A1 : Option Addr) (c1 : Nat) (A3 : Option Addr) (c3 : Nat) (ve : Value) : Prop where
  f : LayF L kinds.length nsig clr st A c A1 c1
  ex : L[2]? = some ve
  fl : L[3]? = some (.slice A3 nfl c3)
  sa : SecsAt w (.slice A kinds.length c) kinds
  sl : ss.length = kinds.length
  sr : SecsR w (.slice A ss.length c) ss
  ea : ExsAt w ve lens
  one : ∀ u ∈ L, u.oneCell' = true
  clr : -9223372036854775808 ≤ clr ∧ clr ≤ 9223372036854775807
  st : -9223372036854775808 ≤ st ∧ st ≤ 9223372036854775807
theorem at_of {cs : List Value} {o : Nat} {u : Value} (h : (cs.drop o).take 1 = [u]) : cs[o]? = some u := by
  have := congrArg (·[0]?) h
  simpa using this
theorem int_at {m o : Nat} {cs : List Value} {y : DataW H × List MemPlace} (h : DataW.trod enc Tryz.prog w 0 (fun _ => true) true m 3 ((cs.drop o).take (Tryz.prog.cellsOf 3)) = some y) : ∃ z : Int, cs[o]? = some (.int .i64 z) ∧ (-9223372036854775808 ≤ z ∧ z ≤ 9223372036854775807) := by
  have hc : Tryz.prog.cellsOf 3 = 1 := by kernel_rfl
  rw [hc] at h
  obtain ⟨z, hz, _, hw⟩ := DataW.trod_int Tryz.underlying3 h
  exact ⟨z, at_of hz, i64_bounds hw⟩
theorem slice_at {m o t e : Nat} {cs : List Value} {y : DataW H × List MemPlace} (ht : Tryz.prog.underlying t = some (.slice e)) (hc : Tryz.prog.cellsOf t = 1) (h : DataW.trod enc Tryz.prog w 0 (fun _ => true) true m t ((cs.drop o).take (Tryz.prog.cellsOf t)) = some y) : ∃ A n c, cs[o]? = some (.slice A n c) := by
  rw [hc] at h
  obtain ⟨A, l, c, hz⟩ := Joins.slice_form ht h
  exact ⟨A, l, c, at_of hz⟩
set_option maxRecDepth 100000 in
theorem open_layout {base : Nat} {v : Value} {d : DataW H} {p : List MemPlace} (hv : Value.okWide Tryz.prog w .any base 29 v) (h : DataW.Trod enc Tryz.prog w 0 (fun _ => true) true 29 v d p) :
    ∃ (L : List Value) (kinds : List Int) (ss : List (List Value)) (lens : List Nat) (nsig nfl : Nat) (clr st : Int) (A : Option Addr) (c : Nat) (A1 : Option Addr) (c1 : Nat) (A3 : Option Addr) (c3 : Nat) (ve : Value),
      v = .agg L.toArray ∧ LayA w L kinds ss lens nsig nfl clr st A c A1 c1 A3 c3 ve := by
  obtain ⟨cs, rfl, hsz⟩ := okWide_struct Tryz.underlying29 hv
  obtain ⟨L⟩ := cs
  obtain ⟨fuel, hf⟩ := h
  simp only [Value.cells] at hf
  have hone := lay_one hf
  have hlen : L.length = 11 := hsz.trans (by kernel_rfl)
  obtain ⟨ys, n, _, _, _, hyl, hel⟩ := DataW.trod_struct Tryz.underlying29 hf
  have gy : ∀ i, i < 5 → ∃ y, ys[i]? = some y := fun i hi => ⟨_, List.getElem?_eq_getElem (by rw [hyl]; exact hi)⟩
  obtain ⟨y0, e0⟩ := gy 0 (by omega)
  obtain ⟨y1, e1⟩ := gy 1 (by omega)
  obtain ⟨y2, e2⟩ := gy 2 (by omega)
  obtain ⟨y3, e3⟩ := gy 3 (by omega)
  obtain ⟨y4, e4⟩ := gy 4 (by omega)
  obtain ⟨v0, xs, h0, h0s, h0k⟩ := open_secs (show DataW.trod enc Tryz.prog w 0 (fun _ => true) true n 22 ((L.drop 0).take (Tryz.prog.cellsOf 22)) = some y0 from (hel 0 _ rfl).trans e0)
  obtain ⟨A1, nsig, c1, h1⟩ := slice_at Tryz.underlying23 (by kernel_rfl) (show DataW.trod enc Tryz.prog w 0 (fun _ => true) true n 23 ((L.drop 1).take (Tryz.prog.cellsOf 23)) = some y1 from (hel 1 _ rfl).trans e1)
  obtain ⟨v2, xe, h2, h2s, h2k⟩ := open_exits (show DataW.trod enc Tryz.prog w 0 (fun _ => true) true n 24 ((L.drop 2).take (Tryz.prog.cellsOf 24)) = some y2 from (hel 2 _ rfl).trans e2)
  obtain ⟨A3, nfl, c3, h3⟩ := slice_at Tryz.underlying25 (by kernel_rfl) (show DataW.trod enc Tryz.prog w 0 (fun _ => true) true n 25 ((L.drop 3).take (Tryz.prog.cellsOf 25)) = some y3 from (hel 3 _ rfl).trans e3)
  have k0 : Tryz.prog.cellsOf 22 = 1 := by kernel_rfl
  have k2 : Tryz.prog.cellsOf 24 = 1 := by kernel_rfl
  rw [k0] at h0
  rw [k2] at h2
  have g0 := at_of h0
  have g2 := at_of h2
  obtain ⟨zs, n4, _, _, _, hzl, hel4⟩ := DataW.trod_struct Tryz.underlying27 (show DataW.trod enc Tryz.prog w 0 (fun _ => true) true n 27 ((L.drop 4).take (Tryz.prog.cellsOf 27)) = some y4 from (hel 4 _ rfl).trans e4)
  have gz : ∀ i, i < 7 → ∃ y, zs[i]? = some y := fun i hi => ⟨_, List.getElem?_eq_getElem (by rw [hzl]; exact hi)⟩
  obtain ⟨z0, f0⟩ := gz 0 (by omega)
  obtain ⟨z2, f2⟩ := gz 2 (by omega)
  obtain ⟨clr, q0, w0⟩ := int_at (show DataW.trod enc Tryz.prog w 0 (fun _ => true) true n4 3 ((((L.drop 4).take (Tryz.prog.cellsOf 27)).drop 0).take (Tryz.prog.cellsOf 3)) = some z0 from (hel4 0 _ rfl).trans f0)
  obtain ⟨st, q2, w2⟩ := int_at (show DataW.trod enc Tryz.prog w 0 (fun _ => true) true n4 3 ((((L.drop 4).take (Tryz.prog.cellsOf 27)).drop 2).take (Tryz.prog.cellsOf 3)) = some z2 from (hel4 2 _ rfl).trans f2)
  have hc4 : Tryz.prog.cellsOf 27 = 7 := by kernel_rfl
  simp only [hc4, List.getElem?_take, List.getElem?_drop] at q0 q2
  obtain ⟨A, c, hv0, hsa, hsr⟩ := secs_of h0s h0k
  subst hv0
  exact ⟨L, _, _, _, nsig, nfl, clr, st, A, c, A1, c1, A3, c3, v2, rfl, ⟨⟨hlen, g0, h1, by simpa using q0, by simpa using q2⟩, g2, h3, hsa, by simp, hsr, exits_of h2s h2k, hone, w0, w2⟩⟩
theorem LayA.later {w W' : World} {L : List Value} {kinds : List Int} {ss : List (List Value)} {lens : List Nat} {nsig nfl : Nat} {clr st : Int} {A : Option Addr} {c : Nat} {A1 : Option Addr} {c1 : Nat} {A3 : Option Addr} {c3 : Nat} {ve : Value}
    (h : LayA w L kinds ss lens nsig nfl clr st A c A1 c1 A3 c3 ve) (b : Below w.heap.size w W') : LayA W' L kinds ss lens nsig nfl clr st A c A1 c1 A3 c3 ve :=
  ⟨h.f, h.ex, h.fl, h.sa.later b, h.sl, h.sr.later b, h.ea.later b, h.one, h.clr, h.st⟩
set_option maxRecDepth 100000 in
/-- what comes in, as a value -/
theorem open_in {m : Nat} {cs : List Value} {x : DataW H × List MemPlace} (h : DataW.trod enc Tryz.prog w 0 (fun _ => true) true m 33 cs = some x) :
    ∃ o n r l : BitVec 32, cs = (inV o n r l).toList := by
  obtain ⟨ys, n, _, _, hl, hyl, hel⟩ := DataW.trod_struct Tryz.underlying33 h
  have hcl : Tryz.prog.cellsOf 33 = 4 := by kernel_rfl
  rw [hcl] at hl
  match cs, hl with
  | [a, b, c, d], _ =>
    have gy : ∀ i, i < 4 → ∃ y, ys[i]? = some y := fun i hi => ⟨_, List.getElem?_eq_getElem (by rw [hyl]; exact hi)⟩
    have hc : Tryz.prog.cellsOf 31 = 1 := by kernel_rfl
    have one : ∀ (i o : Nat) (u : Value) (m : Nat) (y : DataW H × List MemPlace), DataW.trod enc Tryz.prog w 0 (fun _ => true) true m 31 [u] = some y → ∃ s : BitVec 32, u = .int .u32 s.toNat := fun i o u m y h => by
      obtain ⟨z, hz, _, hw⟩ := DataW.trod_int Tryz.underlying31 h
      obtain ⟨s, rfl⟩ := of_u32 hw
      exact ⟨s, (List.cons.inj hz).1⟩
    obtain ⟨y0, e0⟩ := gy 0 (by omega)
    obtain ⟨y1, e1⟩ := gy 1 (by omega)
    obtain ⟨y2, e2⟩ := gy 2 (by omega)
    obtain ⟨y3, e3⟩ := gy 3 (by omega)
    have h0 := (show DataW.trod enc Tryz.prog w 0 (fun _ => true) true n 31 (([a, b, c, d].drop 0).take (Tryz.prog.cellsOf 31)) = some y0 from (hel 0 _ rfl).trans e0)
    have h1 := (show DataW.trod enc Tryz.prog w 0 (fun _ => true) true n 31 (([a, b, c, d].drop 1).take (Tryz.prog.cellsOf 31)) = some y1 from (hel 1 _ rfl).trans e1)
    have h2 := (show DataW.trod enc Tryz.prog w 0 (fun _ => true) true n 31 (([a, b, c, d].drop 2).take (Tryz.prog.cellsOf 31)) = some y2 from (hel 2 _ rfl).trans e2)
    have h3 := (show DataW.trod enc Tryz.prog w 0 (fun _ => true) true n 31 (([a, b, c, d].drop 3).take (Tryz.prog.cellsOf 31)) = some y3 from (hel 3 _ rfl).trans e3)
    rw [hc] at h0 h1 h2 h3
    obtain ⟨o, rfl⟩ := one 0 0 a n y0 h0
    obtain ⟨p, rfl⟩ := one 1 1 b n y1 h1
    obtain ⟨q, rfl⟩ := one 2 2 c n y2 h2
    obtain ⟨s, rfl⟩ := one 3 3 d n y3 h3
    exact ⟨o, p, q, s, rfl⟩
set_option maxRecDepth 100000 in
theorem open_inarg {base : Nat} {v : Value} {d : DataW H} {p : List MemPlace} (hv : Value.okWide Tryz.prog w .any base 33 v) (h : DataW.Trod enc Tryz.prog w 0 (fun _ => true) true 33 v d p) :
    ∃ o n r l : BitVec 32, v = .agg (inV o n r l) := by
  obtain ⟨cs, rfl, hsz⟩ := okWide_struct Tryz.underlying33 hv
  obtain ⟨fuel, hf⟩ := h
  simp only [Value.cells] at hf
  obtain ⟨o, n, r, l, h1⟩ := open_in hf
  exact ⟨o, n, r, l, by have h2 := congrArg List.toArray h1; simp only [Array.toArray_toList] at h2; rw [h2]⟩
set_option maxRecDepth 100000 in
theorem open_image {base : Nat} {v : Value} {d : DataW H} {p : List MemPlace} (hv : Value.okWide Tryz.prog w .any base 35 v) (h : DataW.Trod enc Tryz.prog w 0 (fun _ => true) true 35 v d p) :
    ∃ (M : List Value) (age : Int) (free : List Int) (occ nor rev lam : BitVec 32), v = .agg M.toArray ∧ ImgF M age free occ nor rev lam ∧ (-9223372036854775808 ≤ age ∧ age ≤ 9223372036854775807) ∧ (∀ z ∈ free, -9223372036854775808 ≤ z ∧ z ≤ 9223372036854775807) := by
  obtain ⟨cs, rfl, hsz⟩ := okWide_struct Tryz.underlying35 hv
  obtain ⟨M⟩ := cs
  obtain ⟨fuel, hf⟩ := h
  simp only [Value.cells] at hf
  have hlen : M.length = 29 := hsz.trans (by kernel_rfl)
  obtain ⟨ys, n, _, _, _, hyl, hel⟩ := DataW.trod_struct Tryz.underlying35 hf
  have gy : ∀ i, i < 3 → ∃ y, ys[i]? = some y := fun i hi => ⟨_, List.getElem?_eq_getElem (by rw [hyl]; exact hi)⟩
  obtain ⟨y0, e0⟩ := gy 0 (by omega)
  obtain ⟨y1, e1⟩ := gy 1 (by omega)
  obtain ⟨y2, e2⟩ := gy 2 (by omega)
  obtain ⟨age, h0, w0⟩ := int_at (show DataW.trod enc Tryz.prog w 0 (fun _ => true) true n 3 ((M.drop 0).take (Tryz.prog.cellsOf 3)) = some y0 from (hel 0 _ rfl).trans e0)
  obtain ⟨zs, n1, _, _, hl1, hzl, hel1⟩ := DataW.trod_array Tryz.underlying30 (show DataW.trod enc Tryz.prog w 0 (fun _ => true) true n 30 ((M.drop 1).take (Tryz.prog.cellsOf 30)) = some y1 from (hel 1 _ rfl).trans e1)
  obtain ⟨o, nn, r, l, h2⟩ := open_in (show DataW.trod enc Tryz.prog w 0 (fun _ => true) true n 33 ((M.drop 25).take (Tryz.prog.cellsOf 33)) = some y2 from (hel 2 _ rfl).trans e2)
  have hc1 : Tryz.prog.cellsOf 30 = 24 := by kernel_rfl
  have hci : Tryz.prog.cellsOf 3 = 1 := by kernel_rfl
  have hcn : Tryz.prog.cellsOf 33 = 4 := by kernel_rfl
  have hfree : ∀ k, k < 24 → ∃ z : Int, M[1 + k]? = some (.int .i64 z) ∧ (-9223372036854775808 ≤ z ∧ z ≤ 9223372036854775807) := fun k hk => by
    obtain ⟨y, hy⟩ : ∃ y, zs[k]? = some y := ⟨_, List.getElem?_eq_getElem (by rw [hzl]; exact hk)⟩
    obtain ⟨z, hz, hw⟩ := int_at ((hel1 k hk).trans hy)
    refine ⟨z, ?_, hw⟩
    rw [hci, Nat.mul_one, hc1, List.getElem?_take, if_pos hk, List.getElem?_drop] at hz
    exact hz
  obtain ⟨free, hfl, hfq⟩ := choose_list (Q := fun k (z : Int) => M[1 + k]? = some (.int .i64 z) ∧ (-9223372036854775808 ≤ z ∧ z ≤ 9223372036854775807)) 24 hfree
  have tail : ∀ j u, j < 4 → (inV o nn r l).toList[j]? = some u → M[25 + j]? = some u := fun j u hj hu => by
    rw [← h2] at hu
    simp only [hcn, List.getElem?_take, List.getElem?_drop] at hu
    rw [if_pos hj] at hu
    exact hu
  exact ⟨M, age, free, o, nn, r, l, rfl, ⟨hlen, hfl, h0, fun k z hk => (hfq k z hk).1, tail 0 _ (by omega) rfl, tail 1 _ (by omega) rfl, tail 2 _ (by omega) rfl, tail 3 _ (by omega) rfl⟩, w0, fun z hz => by
    obtain ⟨k, hk⟩ := List.getElem?_of_mem hz
    exact (hfq k z hk).2⟩
end
end Go.Proofs.YtppcdmbpbbjecaaGreat
