/- Arguments: routes that are held, kernels. No condition. -/
import Derived.Test.YtppcdmbpbbjecaaGreatProg
import Derived.Test.YtppcdmbpbbjecaaGreatAspMath
import Derived.Test.YtppcdmbpbbjecaaGreatArg
import Derived.Test.YtppcdmbpbbjecaaGreatAspL
namespace Go.Proofs.YtppcdmbpbbjecaaGreat
open Go.RowKit Rf Mem AM Bv Go.ChangeShapes Go.WideShapes
def t3V (x : T3) : List Value := [.int .i64 x.1, .int .i64 x.2.1, .int .i64 x.2.2]
def t3s (l : List T3) : List Value := l.flatMap t3V
/-- a slice of triples -/
def TAt (W : World) (v : Value) (l : List T3) : Prop := SliceAt W 3 v l.length (t3s l)
theorem TAt.later {W W' : World} {v : Value} {l : List T3} (h : TAt W v l) (b : Below W.heap.size W W') : TAt W' v l := SliceAt.later h b
/-- a route's cells -/
structure HeldAt (W : World) (cs : List Value) (h : HeldM) : Prop where
  len : cs.length = 23
  id : cs[0]? = some (.int .i64 h.id)
  sig : cs[1]? = some (.int .i64 h.sig)
  ex : cs[2]? = some (.int .i64 h.ex)
  st : ∃ v, cs[3]? = some v ∧ TAt W v h.steps
  ov : ∃ v, cs[4]? = some v ∧ TAt W v h.over
  nd : ∃ v, cs[5]? = some v ∧ TAt W v h.needs
  stage : cs[6]? = some (.int .u8 h.stage)
  gone : cs[7]? = some (.int .i64 h.gone)
  wasl : h.was.length = 12
  was : ∀ i, i < 12 → cs[8 + i]? = some (.bool (h.was.getD i false))
  opn : cs[20]? = some (.bool h.opn)
  timer : cs[21]? = some (.int .i64 h.timer)
  shown : cs[22]? = some (.bool h.shown)
theorem HeldAt.later {W W' : World} {cs : List Value} {h : HeldM} (q : HeldAt W cs h) (b : Below W.heap.size W W') : HeldAt W' cs h := by
  obtain ⟨v3, e3, t3⟩ := q.st
  obtain ⟨v4, e4, t4⟩ := q.ov
  obtain ⟨v5, e5, t5⟩ := q.nd
  exact ⟨q.len, q.id, q.sig, q.ex, ⟨v3, e3, t3.later b⟩, ⟨v4, e4, t4.later b⟩, ⟨v5, e5, t5.later b⟩, q.stage, q.gone, q.wasl, q.was, q.opn, q.timer, q.shown⟩
theorem TAt.form {W : World} {v : Value} {l : List T3} (h : TAt W v l) : ∃ A c, v = .slice A l.length c := by
  obtain ⟨A, c, e, _⟩ := SliceAt.form h
  exact ⟨A, c, e⟩
theorem HeldAt.one {W : World} {cs : List Value} {h : HeldM} (q : HeldAt W cs h) : ∀ v ∈ cs, v.oneCell' = true := by
  intro v hv
  obtain ⟨i, hi⟩ := List.getElem?_of_mem hv
  have hlt : i < 23 := by rw [← q.len]; exact (List.getElem?_eq_some_iff.1 hi).1
  obtain ⟨v3, e3, t3⟩ := q.st
  obtain ⟨v4, e4, t4⟩ := q.ov
  obtain ⟨v5, e5, t5⟩ := q.nd
  obtain ⟨_, _, rfl⟩ := t3.form
  obtain ⟨_, _, rfl⟩ := t4.form
  obtain ⟨_, _, rfl⟩ := t5.form
  have hc : i = 0 ∨ i = 1 ∨ i = 2 ∨ i = 3 ∨ i = 4 ∨ i = 5 ∨ i = 6 ∨ i = 7 ∨ (∃ k, k < 12 ∧ i = 8 + k) ∨ i = 20 ∨ i = 21 ∨ i = 22 := by
    by_cases h1 : i < 8
    · omega
    · by_cases h2 : i < 20
      · exact .inr (.inr (.inr (.inr (.inr (.inr (.inr (.inr (.inl ⟨i - 8, by omega, by omega⟩))))))))
      · omega
  rcases hc with rfl | rfl | rfl | rfl | rfl | rfl | rfl | rfl | ⟨k, hk, rfl⟩ | rfl | rfl | rfl
  · rw [q.id] at hi; cases hi; rfl
  · rw [q.sig] at hi; cases hi; rfl
  · rw [q.ex] at hi; cases hi; rfl
  · rw [e3] at hi; cases hi; rfl
  · rw [e4] at hi; cases hi; rfl
  · rw [e5] at hi; cases hi; rfl
  · rw [q.stage] at hi; cases hi; rfl
  · rw [q.gone] at hi; cases hi; rfl
  · rw [q.was k hk] at hi; cases hi; rfl
  · rw [q.opn] at hi; cases hi; rfl
  · rw [q.timer] at hi; cases hi; rfl
  · rw [q.shown] at hi; cases hi; rfl
/-- a slice of routes: their cells, what they are -/
structure HsAt (W : World) (v : Value) (css : List (List Value)) (hs : List HeldM) : Prop where
  len : css.length = hs.length
  all : ∀ cs ∈ css, cs.length = 23
  sl : SliceAt W 23 v css.length (css.flatMap id)
  at_ : ∀ (i : Nat) (cs : List Value) (h : HeldM), css[i]? = some cs → hs[i]? = some h → HeldAt W cs h
theorem HsAt.later {W W' : World} {v : Value} {css : List (List Value)} {hs : List HeldM} (q : HsAt W v css hs) (b : Below W.heap.size W W') : HsAt W' v css hs :=
  ⟨q.len, q.all, q.sl.later b, fun i cs h h1 h2 => (q.at_ i cs h h1 h2).later b⟩
section
variable {H : Type} {enc : TypeId × Value → H} {w : World}
theorem aint_at {m o : Nat} {cs : List Value} {y : DataW H × List MemPlace} (h : DataW.trod enc Tryz.prog w 0 (fun _ => true) true m 3 ((cs.drop o).take (Tryz.prog.cellsOf 3)) = some y) : ∃ z : Int, cs[o]? = some (.int .i64 z) := by
  have hc : Tryz.prog.cellsOf 3 = 1 := by kernel_rfl
  rw [hc] at h
  obtain ⟨z, hz, _, hw⟩ := DataW.trod_int Tryz.underlying3 h
  have := congrArg (·[0]?) hz
  exact ⟨z, by simpa using this⟩
theorem abool_at {m o : Nat} {cs : List Value} {y : DataW H × List MemPlace} (h : DataW.trod enc Tryz.prog w 0 (fun _ => true) true m 4 ((cs.drop o).take (Tryz.prog.cellsOf 4)) = some y) : ∃ z : Bool, cs[o]? = some (.bool z) := by
  have hc : Tryz.prog.cellsOf 4 = 1 := by kernel_rfl
  rw [hc] at h
  obtain ⟨z, hz, _⟩ := DataW.trod_bool Tryz.underlying4 h
  have := congrArg (·[0]?) hz
  exact ⟨z, by simpa using this⟩
theorem au8_at {m o : Nat} {cs : List Value} {y : DataW H × List MemPlace} (h : DataW.trod enc Tryz.prog w 0 (fun _ => true) true m 5 ((cs.drop o).take (Tryz.prog.cellsOf 5)) = some y) : ∃ z : Int, cs[o]? = some (.int .u8 z) ∧ 0 ≤ z ∧ z ≤ 255 := by
  have hc : Tryz.prog.cellsOf 5 = 1 := by kernel_rfl
  rw [hc] at h
  obtain ⟨z, hz, _, hw⟩ := DataW.trod_int Tryz.underlying5 h
  have := congrArg (·[0]?) hz
  exact ⟨z, by simpa using this, by simpa [Lit.wf, IntKind.min, IntKind.max, IntKind.signed, IntKind.bits] using hw⟩
set_option maxRecDepth 100000 in
/-- a slice of structs of three ints, in a cell -/
theorem open_t3 {t e m o : Nat} {fs : Array Field} {cs : List Value} {y : DataW H × List MemPlace} (ht : Tryz.prog.underlying t = some (.slice e)) (he : Tryz.prog.underlying e = some (.struct fs))
    (hfs : fs.toList.map (fun (f : Field) => (f.type, f.offset)) = [(3, 0), (3, 1), (3, 2)]) (hct : Tryz.prog.cellsOf t = 1) (hce : Tryz.prog.cellsOf e = 3)
    (h : DataW.trod enc Tryz.prog w 0 (fun _ => true) true m t ((cs.drop o).take (Tryz.prog.cellsOf t)) = some y) : ∃ (v : Value) (l : List T3), cs[o]? = some v ∧ TAt w v l := by
  rw [hct] at h
  obtain ⟨v, as_, hv, hs, _⟩ := open_cs (sz := 3) t3V (fun _ => True) (fun _ => rfl) (by omega) ht hce (fun k ds x hl hx => by
    obtain ⟨ys, n, _, _, _, hyl, hel⟩ := DataW.trod_struct he hx
    have hsz : fs.toList.length = 3 := by have := congrArg List.length hfs; simpa using this
    have gf : ∀ (i : Nat) (ty : TypeId) (off : Nat), (fs.toList.map (fun (f : Field) => (f.type, f.offset)))[i]? = some (ty, off) → ∃ f : Field, fs[i]? = some f ∧ f.type = ty ∧ f.offset = off := fun i ty off hi => by
      rw [List.getElem?_map] at hi
      obtain ⟨f, h1, h2⟩ := Option.map_eq_some_iff.1 hi
      exact ⟨f, by simpa using h1, congrArg Prod.fst h2, congrArg Prod.snd h2⟩
    have gi : ∀ i, i < 3 → ∃ z : Int, ds[i]? = some (.int .i64 z) := fun i hi => by
      have hq : (fs.toList.map (fun (f : Field) => (f.type, f.offset)))[i]? = some (3, i) := by
        rw [hfs]
        match i, hi with
        | 0, _ => rfl
        | 1, _ => rfl
        | 2, _ => rfl
      obtain ⟨f, h1, h2, h3⟩ := gf i _ _ hq
      obtain ⟨z, hz⟩ : ∃ z, ys[i]? = some z := ⟨_, List.getElem?_eq_getElem (by rw [hyl]; simpa using (by rw [hsz]; exact hi : i < fs.toList.length))⟩
      have := (hel i f h1).trans hz
      rw [h2, h3] at this
      exact aint_at this
    obtain ⟨a, ha⟩ := gi 0 (by omega)
    obtain ⟨b, hb⟩ := gi 1 (by omega)
    obtain ⟨c, hc⟩ := gi 2 (by omega)
    refine ⟨(a, b, c), trivial, ?_⟩
    obtain ⟨d0, d1, d2, rfl⟩ : ∃ d0 d1 d2, ds = [d0, d1, d2] := by
      match ds, hl with
      | [d0, d1, d2], _ => exact ⟨_, _, _, rfl⟩
    simp at ha hb hc
    subst ha hb hc
    rfl) h
  refine ⟨v, as_, ?_, hs⟩
  have := congrArg (·[0]?) hv
  simpa using this
theorem take_at {cs : List Value} {o n i : Nat} (hi : i < n) : ((cs.drop o).take n)[i]? = cs[o + i]? := by
  rw [List.getElem?_take, if_pos hi, List.getElem?_drop]
set_option maxRecDepth 100000 in
theorem open_held_cs {m : Nat} {cs : List Value} {x : DataW H × List MemPlace} (hlen : cs.length = 23) (h : DataW.trod enc Tryz.prog w 0 (fun _ => true) true m 75 cs = some x) : ∃ q : HeldM, HeldAt w cs q := by
  obtain ⟨ys, n, _, _, _, hyl, hel⟩ := DataW.trod_struct Tryz.underlying75 h
  have gy : ∀ i, i < 10 → ∃ y, ys[i]? = some y := fun i hi => ⟨_, List.getElem?_eq_getElem (by rw [hyl]; exact hi)⟩
  obtain ⟨y0, e0⟩ := gy 0 (by omega)
  obtain ⟨y1, e1⟩ := gy 1 (by omega)
  obtain ⟨y2, e2⟩ := gy 2 (by omega)
  obtain ⟨y3, e3⟩ := gy 3 (by omega)
  obtain ⟨y4, e4⟩ := gy 4 (by omega)
  obtain ⟨y5, e5⟩ := gy 5 (by omega)
  obtain ⟨y6, e6⟩ := gy 6 (by omega)
  obtain ⟨y7, e7⟩ := gy 7 (by omega)
  obtain ⟨y8, e8⟩ := gy 8 (by omega)
  obtain ⟨y9, e9⟩ := gy 9 (by omega)
  obtain ⟨z0, h0⟩ := aint_at (show DataW.trod enc Tryz.prog w 0 (fun _ => true) true n 3 ((cs.drop 0).take (Tryz.prog.cellsOf 3)) = some y0 from (hel 0 _ rfl).trans e0)
  obtain ⟨ps, n1, _, _, _, hpl, hel1⟩ := DataW.trod_struct Tryz.underlying71 (show DataW.trod enc Tryz.prog w 0 (fun _ => true) true n 71 ((cs.drop 1).take (Tryz.prog.cellsOf 71)) = some y1 from (hel 1 _ rfl).trans e1)
  have cp : Tryz.prog.cellsOf 71 = 3 := by kernel_rfl
  rw [cp] at hel1
  have gp : ∀ i, i < 3 → ∃ y, ps[i]? = some y := fun i hi => ⟨_, List.getElem?_eq_getElem (by rw [hpl]; exact hi)⟩
  obtain ⟨p0, f0⟩ := gp 0 (by omega)
  obtain ⟨p1, f1⟩ := gp 1 (by omega)
  obtain ⟨p2, f2⟩ := gp 2 (by omega)
  obtain ⟨z1, h1⟩ := aint_at (show DataW.trod enc Tryz.prog w 0 (fun _ => true) true n1 3 ((((cs.drop 1).take 3).drop 0).take (Tryz.prog.cellsOf 3)) = some p0 from (hel1 0 _ rfl).trans f0)
  obtain ⟨z2, h2⟩ := aint_at (show DataW.trod enc Tryz.prog w 0 (fun _ => true) true n1 3 ((((cs.drop 1).take 3).drop 1).take (Tryz.prog.cellsOf 3)) = some p1 from (hel1 1 _ rfl).trans f1)
  obtain ⟨v3, l3, h3, t3⟩ := open_t3 Tryz.underlying67 Tryz.underlying79 (by kernel_rfl) (by kernel_rfl) (by kernel_rfl) (show DataW.trod enc Tryz.prog w 0 (fun _ => true) true n1 67 ((((cs.drop 1).take 3).drop 2).take (Tryz.prog.cellsOf 67)) = some p2 from (hel1 2 _ rfl).trans f2)
  rw [take_at (by omega)] at h1 h2 h3
  obtain ⟨v4, l4, h4, t4⟩ := open_t3 Tryz.underlying67 Tryz.underlying79 (by kernel_rfl) (by kernel_rfl) (by kernel_rfl) (show DataW.trod enc Tryz.prog w 0 (fun _ => true) true n 67 ((cs.drop 4).take (Tryz.prog.cellsOf 67)) = some y2 from (hel 2 _ rfl).trans e2)
  obtain ⟨v5, l5, h5, t5⟩ := open_t3 Tryz.underlying72 Tryz.underlying81 (by kernel_rfl) (by kernel_rfl) (by kernel_rfl) (show DataW.trod enc Tryz.prog w 0 (fun _ => true) true n 72 ((cs.drop 5).take (Tryz.prog.cellsOf 72)) = some y3 from (hel 3 _ rfl).trans e3)
  obtain ⟨z6, h6, _, _⟩ := au8_at (show DataW.trod enc Tryz.prog w 0 (fun _ => true) true n 5 ((cs.drop 6).take (Tryz.prog.cellsOf 5)) = some y4 from (hel 4 _ rfl).trans e4)
  obtain ⟨z7, h7⟩ := aint_at (show DataW.trod enc Tryz.prog w 0 (fun _ => true) true n 3 ((cs.drop 7).take (Tryz.prog.cellsOf 3)) = some y5 from (hel 5 _ rfl).trans e5)
  obtain ⟨zs, n2, _, _, hl1, hzl, hel2⟩ := DataW.trod_array Tryz.underlying73 (show DataW.trod enc Tryz.prog w 0 (fun _ => true) true n 73 ((cs.drop 8).take (Tryz.prog.cellsOf 73)) = some y6 from (hel 6 _ rfl).trans e6)
  have cb : Tryz.prog.cellsOf 4 = 1 := by kernel_rfl
  have ca : Tryz.prog.cellsOf 73 = 12 := by kernel_rfl
  have hk : ∀ k, k < 12 → ∃ z : Bool, cs[8 + k]? = some (.bool z) := fun k hk => by
    obtain ⟨y, hy⟩ : ∃ y, zs[k]? = some y := ⟨_, List.getElem?_eq_getElem (by rw [hzl]; exact hk)⟩
    have ho := (hel2 k hk).trans hy
    rw [cb] at ho
    obtain ⟨z, hz, _⟩ := DataW.trod_bool Tryz.underlying4 ho
    refine ⟨z, ?_⟩
    have := congrArg (·[0]?) hz
    rw [Nat.mul_one, ca] at this
    simpa [List.getElem?_take, hk] using this
  obtain ⟨ws, hwl, hwq⟩ := choose_list (Q := fun k (z : Bool) => cs[8 + k]? = some (.bool z)) 12 hk
  obtain ⟨z20, h20⟩ := abool_at (show DataW.trod enc Tryz.prog w 0 (fun _ => true) true n 4 ((cs.drop 20).take (Tryz.prog.cellsOf 4)) = some y7 from (hel 7 _ rfl).trans e7)
  obtain ⟨z21, h21⟩ := aint_at (show DataW.trod enc Tryz.prog w 0 (fun _ => true) true n 3 ((cs.drop 21).take (Tryz.prog.cellsOf 3)) = some y8 from (hel 8 _ rfl).trans e8)
  obtain ⟨z22, h22⟩ := abool_at (show DataW.trod enc Tryz.prog w 0 (fun _ => true) true n 4 ((cs.drop 22).take (Tryz.prog.cellsOf 4)) = some y9 from (hel 9 _ rfl).trans e9)
  refine ⟨⟨z0, z1, z2, l3, l4, l5, z6, z7, ws, z20, z21, z22⟩, ⟨hlen, h0, h1, h2, ⟨v3, h3, t3⟩, ⟨v4, h4, t4⟩, ⟨v5, h5, t5⟩, h6, h7, hwl, fun i hi => ?_, h20, h21, h22⟩⟩
  exact hwq i _ (by simp [List.getD, List.getElem?_eq_getElem (show i < ws.length by omega)])
/-- routes in a cell -/
theorem open_helds {m o : Nat} {cs : List Value} {y : DataW H × List MemPlace} (h : DataW.trod enc Tryz.prog w 0 (fun _ => true) true m 36 ((cs.drop o).take (Tryz.prog.cellsOf 36)) = some y) : ∃ (v : Value) (css : List (List Value)) (hs : List HeldM), cs[o]? = some v ∧ HsAt w v css hs := by
  have hct : Tryz.prog.cellsOf 36 = 1 := by kernel_rfl
  rw [hct] at h
  obtain ⟨v, as_, hv, hsl, hok⟩ := open_cs (sz := 23) (fun a : { cs : List Value // cs.length = 23 } => a.1) (fun a => ∃ q : HeldM, HeldAt w a.1 q) (fun a => a.2) (by omega) Tryz.underlying36 (by kernel_rfl)
    (fun k ds x hl hx => ⟨⟨ds, hl⟩, open_held_cs hl hx, rfl⟩) h
  obtain ⟨hs, hhl, hq⟩ := choose_list (Q := fun i (q : HeldM) => ∀ a, as_[i]? = some a → HeldAt w a.1 q) as_.length (fun i hi => by
    obtain ⟨q, hq⟩ := hok _ (List.getElem_mem hi)
    refine ⟨q, fun a ha => ?_⟩
    rw [List.getElem?_eq_getElem hi] at ha
    cases ha
    exact hq)
  refine ⟨v, as_.map (·.1), hs, ?_, ⟨by rw [List.length_map, hhl], ?_, ?_, ?_⟩⟩
  · have := congrArg (·[0]?) hv
    simpa using this
  · rintro cs hcs
    obtain ⟨a, _, rfl⟩ := List.mem_map.1 hcs
    exact a.2
  · rw [List.length_map, List.flatMap_map]; exact hsl
  · rintro i cs q h1 h2
    rw [List.getElem?_map] at h1
    obtain ⟨a, ha, rfl⟩ := Option.map_eq_some_iff.1 h1
    exact hq i q h2 a ha
/-- a kernel's cells -/
structure KerAt (W : World) (K : List Value) (v : Value) (css : List (List Value)) (hs : List HeldM) (nx : Int) (ms : List (Int × Int × Bool)) : Prop where
  len : K.length = 74
  next : K[0]? = some (.int .i64 nx)
  held : K[1]? = some v
  hs : HsAt W v css hs
  ml : ms.length = 24
  mach : ∀ (i : Nat) (m : Int × Int × Bool), ms[i]? = some m → K[2 + 3 * i]? = some (.int .i64 m.1) ∧ K[2 + 3 * i + 1]? = some (.int .i64 m.2.1) ∧ K[2 + 3 * i + 2]? = some (.bool m.2.2)
theorem KerAt.later {W W' : World} {K : List Value} {v : Value} {css : List (List Value)} {hs : List HeldM} {nx : Int} {ms : List (Int × Int × Bool)} (q : KerAt W K v css hs nx ms) (b : Below W.heap.size W W') : KerAt W' K v css hs nx ms := ⟨q.len, q.next, q.held, q.hs.later b, q.ml, q.mach⟩
set_option maxRecDepth 100000 in
theorem open_kernel {base : Nat} {v : Value} {d : DataW H} {p : List MemPlace} (hv : Value.okWide Tryz.prog w .any base 41 v) (h : DataW.Trod enc Tryz.prog w 0 (fun _ => true) true 41 v d p) :
    ∃ (K : List Value) (vh : Value) (css : List (List Value)) (hs : List HeldM) (nx : Int) (ms : List (Int × Int × Bool)), v = .agg K.toArray ∧ KerAt w K vh css hs nx ms := by
  obtain ⟨cs, rfl, hsz⟩ := okWide_struct Tryz.underlying41 hv
  obtain ⟨K⟩ := cs
  obtain ⟨fuel, hf⟩ := h
  simp only [Value.cells] at hf
  have hlen : K.length = 74 := hsz.trans (by kernel_rfl)
  obtain ⟨ys, n, _, _, _, hyl, hel⟩ := DataW.trod_struct Tryz.underlying41 hf
  obtain ⟨y0, e0⟩ : ∃ y, ys[0]? = some y := ⟨_, List.getElem?_eq_getElem (by rw [hyl]; decide)⟩
  obtain ⟨y1, e1⟩ : ∃ y, ys[1]? = some y := ⟨_, List.getElem?_eq_getElem (by rw [hyl]; decide)⟩
  obtain ⟨y2, e2⟩ : ∃ y, ys[2]? = some y := ⟨_, List.getElem?_eq_getElem (by rw [hyl]; decide)⟩
  obtain ⟨nx, h0⟩ := aint_at (show DataW.trod enc Tryz.prog w 0 (fun _ => true) true n 3 ((K.drop 0).take (Tryz.prog.cellsOf 3)) = some y0 from (hel 0 _ rfl).trans e0)
  obtain ⟨vh, css, hs, h1, h2⟩ := open_helds (show DataW.trod enc Tryz.prog w 0 (fun _ => true) true n 36 ((K.drop 1).take (Tryz.prog.cellsOf 36)) = some y1 from (hel 1 _ rfl).trans e1)
  obtain ⟨zs, n2, _, _, _, hzl, hel2⟩ := DataW.trod_array Tryz.underlying39 (show DataW.trod enc Tryz.prog w 0 (fun _ => true) true n 39 ((K.drop 2).take (Tryz.prog.cellsOf 39)) = some y2 from (hel 2 _ rfl).trans e2)
  have cm : Tryz.prog.cellsOf 38 = 3 := by kernel_rfl
  have ca : Tryz.prog.cellsOf 39 = 72 := by kernel_rfl
  have hk : ∀ k, k < 24 → ∃ m : Int × Int × Bool, K[2 + 3 * k]? = some (.int .i64 m.1) ∧ K[2 + 3 * k + 1]? = some (.int .i64 m.2.1) ∧ K[2 + 3 * k + 2]? = some (.bool m.2.2) := fun k hk => by
    obtain ⟨y, hy⟩ : ∃ y, zs[k]? = some y := ⟨_, List.getElem?_eq_getElem (by rw [hzl]; exact hk)⟩
    have ho := (hel2 k hk).trans hy
    rw [cm, ca] at ho
    obtain ⟨qs, n3, _, _, _, hql, hel3⟩ := DataW.trod_struct Tryz.underlying38 ho
    have gq : ∀ i, i < 3 → ∃ y, qs[i]? = some y := fun i hi => ⟨_, List.getElem?_eq_getElem (by rw [hql]; exact hi)⟩
    obtain ⟨q0, f0⟩ := gq 0 (by omega)
    obtain ⟨q1, f1⟩ := gq 1 (by omega)
    obtain ⟨q2, f2⟩ := gq 2 (by omega)
    obtain ⟨a, ha⟩ := aint_at (show DataW.trod enc Tryz.prog w 0 (fun _ => true) true n3 3 ((((((K.drop 2).take 72).drop (k * 3)).take 3).drop 0).take (Tryz.prog.cellsOf 3)) = some q0 from (hel3 0 _ rfl).trans f0)
    obtain ⟨b, hb⟩ := aint_at (show DataW.trod enc Tryz.prog w 0 (fun _ => true) true n3 3 ((((((K.drop 2).take 72).drop (k * 3)).take 3).drop 1).take (Tryz.prog.cellsOf 3)) = some q1 from (hel3 1 _ rfl).trans f1)
    obtain ⟨c, hc⟩ := abool_at (show DataW.trod enc Tryz.prog w 0 (fun _ => true) true n3 4 ((((((K.drop 2).take 72).drop (k * 3)).take 3).drop 2).take (Tryz.prog.cellsOf 4)) = some q2 from (hel3 2 _ rfl).trans f2)
    refine ⟨(a, b, c), ?_, ?_, ?_⟩
    · rw [take_at (by omega), take_at (by omega)] at ha
      rw [← ha]; congr 1; omega
    · rw [take_at (by omega), take_at (by omega)] at hb
      rw [← hb]; congr 1; omega
    · rw [take_at (by omega), take_at (by omega)] at hc
      rw [← hc]; congr 1; omega
  obtain ⟨ms, hml, hmq⟩ := choose_list (Q := fun k (m : Int × Int × Bool) => K[2 + 3 * k]? = some (.int .i64 m.1) ∧ K[2 + 3 * k + 1]? = some (.int .i64 m.2.1) ∧ K[2 + 3 * k + 2]? = some (.bool m.2.2)) 24 hk
  exact ⟨K, vh, css, hs, nx, ms, rfl, ⟨hlen, h0, h1, h2, hml, hmq⟩⟩
end
end Go.Proofs.YtppcdmbpbbjecaaGreat
