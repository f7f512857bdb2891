/- Images and layouts, bundled; the closures of aspect; slices' ContainsFunc over them. Nothing that was there is turned. -/
import Derived.Test.YtppcdmbpbbjecaaGreatAspR
import Derived.Test.YtppcdmbpbbjecaaGreatAspArg
namespace Go.Proofs.YtppcdmbpbbjecaaGreat
open List renaming getElem_toArray → zA, getElem_cons_succ → zS, getElem_cons_zero → zZ, setIfInBounds_toArray → zP, set_cons_zero → zQ, set_cons_succ → zR
open Go.RowKit Rf Mem Bv AM
attribute [local go_sem ↓] run_max2 run_min2
/-- what is read of a layout and an image -/
structure IM where
  kinds : List Int
  nsig : Nat
  clr : Int
  st : Int
  A : Option Addr
  c : Nat
  A1 : Option Addr
  c1 : Nat
  age : Int
  free : List Int
  occ : BitVec 32
  nor : BitVec 32
  rev : BitVec 32
  lam : BitVec 32
def IM.stale (I : IM) : Bool := decide (I.st < I.age)
def IM.occB (I : IM) (n : Int) : Bool := occV I.kinds.length I.occ I.stale I.free I.clr n
def IM.litB (I : IM) (n : Int) : Bool := litV I.nsig I.lam I.stale n
def IM.stand (I : IM) (n : Int) : Int := atV I.kinds I.nor I.rev I.stale n
structure IMF (I : IM) (L M : List Value) : Prop where
  l : LayF L I.kinds.length I.nsig I.clr I.st I.A I.c I.A1 I.c1
  m : ImgF M I.age I.free I.occ I.nor I.rev I.lam
structure IMA (I : IM) (L M : List Value) (W : World) : Prop where
  f : IMF I L M
  s : SecsAt W (.slice I.A I.kinds.length I.c) I.kinds
theorem IMA.later {I : IM} {L M : List Value} {W W' : World} (h : IMA I L M W) (b : Below W.heap.size W W') : IMA I L M W' := ⟨h.f, h.s.later b⟩
theorem occ_c (I : IM) (L M : List Value) (n : Int) (r : Bool) (w : World) (hr : r = I.occB n) (h : IMF I L M) : Calls Tryz.prog 36 #[.agg L.toArray, .agg M.toArray, .int .i64 n] w fun e w' => e = .returned (.bool r) ∧ Below w.heap.size w w' := by
  subst hr; exact Occupied_c L M _ _ _ _ _ n _ _ _ _ _ _ _ _ _ w h.l h.m
theorem lit_c (I : IM) (L M : List Value) (n : Int) (r : Bool) (w : World) (hr : r = I.litB n) (h : IMF I L M) : Calls Tryz.prog 122 #[.agg L.toArray, .agg M.toArray, .int .i64 n] w fun e w' => e = .returned (.bool r) ∧ Below w.heap.size w w' := by
  subst hr; exact Lit_c L M _ _ _ _ _ n _ _ _ _ _ _ _ _ _ w h.l h.m
theorem stand_c (I : IM) (L M : List Value) (n r : Int) (w : World) (hr : r = I.stand n) (h : IMA I L M w) : Calls Tryz.prog 40 #[.agg L.toArray, .agg M.toArray, .int .i64 n] w fun e w' => e = .returned (.int .i64 r) ∧ Below w.heap.size w w' := by
  subst hr; exact At_c L M _ _ _ _ _ n _ _ _ _ _ _ _ _ _ w h.f.l h.f.m h.s
theorem rocc_c (I : IM) (L M : List Value) (n : Int) (r : Bool) (w : World) (hr : r = I.occB n) (h : IMF I L M) : Calls Tryz.prog 53 #[.agg L.toArray, .agg M.toArray, .int .i64 n] w fun e w' => e = .returned (.bool r) ∧ Below w.heap.size w w' :=
  refOcc_c L M _ _ _ _ _ n _ _ _ _ _ _ _ _ _ r w hr h.l h.m
theorem rlit_c (I : IM) (L M : List Value) (n : Int) (r : Bool) (w : World) (hr : r = I.litB n) (h : IMF I L M) : Calls Tryz.prog 114 #[.agg L.toArray, .agg M.toArray, .int .i64 n] w fun e w' => e = .returned (.bool r) ∧ Below w.heap.size w w' :=
  refLit_c L M _ _ _ _ _ n _ _ _ _ _ _ _ _ _ r w hr h.l h.m
theorem rstand_c (I : IM) (L M : List Value) (n r : Int) (w : World) (hr : r = I.stand n) (h : IMA I L M w) : Calls Tryz.prog 54 #[.agg L.toArray, .agg M.toArray, .int .i64 n] w fun e w' => e = .returned (.int .i64 r) ∧ Below w.heap.size w w' :=
  refAt_c L M _ _ _ _ _ _ n _ _ _ _ _ _ _ _ _ r w rfl hr h.f.l h.f.m h.s
theorem rstale_c (I : IM) (L M : List Value) (r : Bool) (w : World) (hr : r = I.stale) (h : IMF I L M) : Calls Tryz.prog 84 #[.agg L.toArray, .agg M.toArray] w fun e w' => e = .returned (.bool r) ∧ Below w.heap.size w w' :=
  refStale_c L M _ _ r w hr h.l.st h.m.age
/-- two variables: a layout, an image -/
structure V2 (W : World) (gl gm : Nat) (L M : List Value) : Prop where
  l : W.heap[gl]? = some (.cells L.toArray 29 (0, 0))
  m : W.heap[gm]? = some (.cells M.toArray 35 (0, 0))
theorem V2.later {W W' : World} {gl gm : Nat} {L M : List Value} (h : V2 W gl gm L M) (b : Below W.heap.size W W') : V2 W' gl gm L M := ⟨var_later h.l b, var_later h.m b⟩
theorem cell_later {W W' : World} {a : Addr} {v : Value} (h : W.cell? a = some v) (b : Below W.heap.size W W') : W'.cell? a = some v := (b.cell (World.block_lt_of_cell? W a h)).trans h
/-- one of a slice's triples -/
theorem t3_cells {W : World} {v : Value} {l : List T3} (h : TAt W v l) {k : Nat} {a : T3} (ha : l[k]? = some a) : ∃ b off c, v = .slice (some ⟨b, off, none⟩) l.length c ∧ W.cell? ⟨b, off + k * 3, none⟩ = some (.int .i64 a.1) ∧ W.cell? ⟨b, off + k * 3 + 1, none⟩ = some (.int .i64 a.2.1) ∧ W.cell? ⟨b, off + k * 3 + 2, none⟩ = some (.int .i64 a.2.2) := by
  have hk : k < l.length := (List.getElem?_eq_some_iff.1 ha).1
  obtain ⟨b, off, c, rfl, _, _, _, hc⟩ := SliceAt.pos h (by omega)
  have g : ∀ j v, (t3V a)[j]? = some v → (t3s l)[k * 3 + j]? = some v := fun j v hv => by
    have hj : j < 3 := (List.getElem?_eq_some_iff.1 hv).1
    rw [t3s, flatMap_get (sz := 3) (fun a _ => rfl) k j hj, ha]; exact hv
  exact ⟨b, off, c, rfl, hc _ _ (g 0 _ rfl), by rw [Nat.add_assoc]; exact hc _ _ (g 1 _ rfl), by rw [Nat.add_assoc]; exact hc _ _ (g 2 _ rfl)⟩
set_option maxRecDepth 100000 in
theorem train_c (I : IM) (L M : List Value) (gl gm : Nat) (a b c : Int) (r : Bool) (w : World) (hr : r = I.occB a) (h : IMF I L M) (hv : V2 w gl gm L M) :
    Calls Tryz.prog 121 #[.agg #[.int .i64 a, .int .i64 b, .int .i64 c], .pointer (some ⟨gl, 0, none⟩), .pointer (some ⟨gm, 0, none⟩)] w fun e w' => e = .returned (.bool r) ∧ Below w.heap.size w w' := by
  have b0 := below_new w (.cells #[.int .i64 a, .int .i64 b, .int .i64 c] 79)
  have x0 := cell_at (new_at (w := w) rfl (.cells #[.int .i64 a, .int .i64 b, .int .i64 c] 79)) 0
  have V := hv.later b0
  have szL := lay_size h.l.len
  have szM := img_size h.m.len
  have RL := range_of V.l
  have RM := range_of V.m
  have HR := Lib.hid hr
  clear hr hv V
  go_enter Tryz.func121, Tryz.ntmps121
  go_wp2_with (first
    | refine wpList_load_g (by rfl) 29 (.tmp 1) (by rfl) gl 0 (by rfl) L _ RL Tryz.underlying29 rfl szL ?_
    | refine wpList_load_g (by rfl) 35 (.tmp 2) (by rfl) gm 0 (by rfl) M _ RM Tryz.underlying35 rfl szM ?_
    | fail)
  refine (occ_c I L M a r _ HR.out h).mono ?_
  rintro e W1 ⟨rfl, b1⟩
  have B := below_step b0 b1
  clear RL RM x0 b0 b1
  go_wp2
  go_ret
  exact ⟨rfl, B⟩
set_option maxRecDepth 100000 in
theorem proof_c (I : IM) (L M : List Value) (gl gm : Nat) (a b c : Int) (r : Bool) (w : World) (hr : r = (I.stand a != b)) (h : IMA I L M w) (hv : V2 w gl gm L M) :
    Calls Tryz.prog 131 #[.agg #[.int .i64 a, .int .i64 b, .int .i64 c], .pointer (some ⟨gl, 0, none⟩), .pointer (some ⟨gm, 0, none⟩)] w fun e w' => e = .returned (.bool r) ∧ Below w.heap.size w w' := by
  have b0 := below_new w (.cells #[.int .i64 a, .int .i64 b, .int .i64 c] 81)
  have G := new_at (w := w) rfl (.cells #[.int .i64 a, .int .i64 b, .int .i64 c] 81)
  have V := hv.later b0
  have h1 := h.later b0
  have szL := lay_size h.f.l.len
  have szM := img_size h.f.m.len
  obtain ⟨z, hz⟩ : ∃ z, I.stand a = z := ⟨_, rfl⟩
  rw [hz] at hr
  have HZ := Lib.hid hz.symm
  have HR := Lib.hid hr
  clear hr hv hz h
  go_enter Tryz.func131, Tryz.ntmps131
  go_upto_region 1 with (fail)
  generalize w.alloc (.cells #[.int .i64 a, .int .i64 b, .int .i64 c] 81) = W0 at *
  refine wp_region_held_drew (S := (fun w' => (w'.rangeAt gl 0 L ∧ w'.rangeAt gm 0 M) ∧ w'.cell? ⟨w.heap.size, 0, none⟩ = some (.int .i64 a) ∧ w'.cell? ⟨w.heap.size, 1, none⟩ = some (.int .i64 b))) (by kernel_rfl) ?_ (fun hHeld => ?_)
  · exact ⟨⟨range_of V.l, range_of V.m⟩, (cell_at G 0).trans rfl, (cell_at G 1).trans rfl⟩
  have bd : Below W0.heap.size W0 W0.drew := (Below.refl _ W0).drew
  replace V := V.later bd
  replace G := var_later G bd
  replace h1 := h1.later bd
  have B := below_step b0 bd
  clear bd b0
  generalize W0.drew = W at *
  refine wpAnyH_take (i := 0) (v := .agg (L : List Value).toArray) rfl (by kernel_rfl) (by kernel_rfl) (by kernel_rfl) (fun _ _ _ h => h) (yieldsIf_load_mid (by kernel_rfl) 29 (.tmp 1) (by kernel_rfl) (gl) 0 (by kernel_rfl) L _ (fun w' h => h.1.1) (by first | exact Tryz.underlying29) rfl (by first | assumption | (simp only [*]; kernel_rfl))) (by assumption) ?_
  try simp only [zA, zS, zZ, Act.put, zP, zQ, zR]
  refine wpAnyH_take (i := 1) (v := .agg (M : List Value).toArray) rfl (by kernel_rfl) (by kernel_rfl) (by kernel_rfl) (fun _ _ _ h => h) (yieldsIf_load_mid (by kernel_rfl) 35 (.tmp 2) (by kernel_rfl) (gm) 0 (by kernel_rfl) M _ (fun w' h => h.1.2) (by first | exact Tryz.underlying35) rfl (by first | assumption | (simp only [*]; kernel_rfl))) (by assumption) ?_
  try simp only [zA, zS, zZ, Act.put, zP, zQ, zR]
  refine Node.tk 2 ?_ rfl ?_ ?_
  rotate_left
  · intro w hSw; (try dsimp only at hSw); go_simp; try with_reducible rfl
  simp only [zA, zS, zZ, Act.put, zP, zQ, zR]
  refine Node.tk 3 ?_ rfl ?_ ?_
  rotate_left
  · intro w hSw; (try dsimp only at hSw); go_simp; try with_reducible rfl
  simp only [zA, zS, zZ, Act.put, zP, zQ, zR]
  refine Node.tk 5 ?_ rfl ?_ ?_
  rotate_left
  · intro w hSw; (try dsimp only at hSw); go_simp; try with_reducible rfl
  simp only [zA, zS, zZ, Act.put, zP, zQ, zR]
  refine Node.tk 6 ?_ rfl ?_ ?_
  rotate_left
  · intro w hSw; (try dsimp only at hSw); go_simp; try with_reducible rfl
  simp only [zA, zS, zZ, Act.put, zP, zQ, zR]
  clear hHeld
  refine Node.on 4 rfl (fun K hK => ?_)
  go_simp
  refine (stand_c I L M a z _ HZ.out h1).mono ?_
  rintro e W1 ⟨rfl, b1⟩
  replace V := V.later b1
  replace G := var_later G b1
  replace B := below_step B b1
  clear b1 h1
  refine hK.out _ _ ⟨⟨range_of V.l, range_of V.m⟩, by rw [cell_at G]; rfl, by rw [cell_at G]; rfl⟩ (fun hHeld => ?_)
  clear hK K
  try simp only [zA, zS, zZ, Act.put, zP, zQ, zR]
  refine Node.tk 7 ?_ rfl ?_ ?_
  rotate_left
  · intro w hSw; (try dsimp only at hSw); go_simp; try with_reducible rfl
  simp only [zA, zS, zZ, Act.put, zP, zQ, zR]
  refine Node.tk 8 ?_ rfl ?_ ?_
  rotate_left
  · intro w hSw; (try dsimp only at hSw); go_simp; try with_reducible rfl
  simp only [zA, zS, zZ, Act.put, zP, zQ, zR]
  clear hHeld
  refine wpAnyH_done (by kernel_rfl) ?_ _
  go_wp2
  go_ret
  exact ⟨by rw [HR.out]; rfl, B⟩
end Go.Proofs.YtppcdmbpbbjecaaGreat
