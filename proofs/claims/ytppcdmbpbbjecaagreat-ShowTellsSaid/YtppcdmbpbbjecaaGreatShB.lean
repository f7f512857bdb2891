/- Shows: the iterator over a show's numbers. Nothing that was there is turned but by yield. -/
import Derived.Test.YtppcdmbpbbjecaaGreatShA
import Derived.Test.YtppcdmbpbbjecaaGreatRfB
namespace Go.Proofs.YtppcdmbpbbjecaaGreat
open List renaming getElem_toArray → zA, getElem_cons_succ → zS, getElem_cons_zero → zZ, setIfInBounds_toArray → zP, set_cons_zero → zQ, set_cons_succ → zR
open Go.RowKit Rf Mem Bv AM SM
attribute [local go_sem ↓] run_max2 run_min2
attribute [local go_sem] Oper.semAt_some
/-- a number and its width, as they are handed over -/
def fV (f : Fld) : Value := .agg #[.int .i64 (f.1 : Int), .int .i64 (f.2 : Int)]
/-- the iterator's state: so many numbers were handed over -/
structure ISf (l : Nat) (xs : List Fld) (F : World → Prop) (S : Nat → World → Prop) : Prop where
  pf : ∀ i W, S i W → F W
  later : ∀ i W W', S i W → Below W.heap.size W W' → S i W'
  step : ∀ i p W, xs[i]? = some p → S i W → YieldAt Fence.wide 0 Tryz.prog l #[fV p] W fun e W' => e = .returned (.bool true) ∧ S (i + 1) W'
/-- what is known behind a base -/
def St (J : Nat → (Nat → Prop) → World → Prop) (O0 : Nat → Prop) (Wb : World) (i : Nat) (W : World) : Prop := ∃ O, J i O W ∧ Past O0 Wb O W
theorem past_trans {O0 O O' : Nat → Prop} {W0 W W' : World} (h : Past O0 W0 O W) (k : Past O W O' W') : Past O0 W0 O' W' :=
  ⟨⟨k.keep.os.trans h.keep.os, k.keep.tape.trans h.keep.tape, k.keep.output.trans h.keep.output, Nat.le_trans h.keep.size k.keep.size,
    fun q hq hn => (k.keep.block q (Nat.lt_of_lt_of_le hq h.keep.size) (fun h2 => hn (h.own q hq h2))).trans (h.keep.block q hq hn)⟩,
   fun q hq h2 => h.own q hq (k.own q (Nat.lt_of_lt_of_le hq h.keep.size) h2)⟩
theorem past_below {O0 O : Nat → Prop} {W0 W W' : World} (h : Past O0 W0 O W) (b : Below W.heap.size W W') : Past O0 W0 O W' :=
  ⟨⟨b.os.trans h.keep.os, b.tape.trans h.keep.tape, b.output.trans h.keep.output, Nat.le_trans h.keep.size b.size,
    fun q hq hn => (b.block q (Nat.lt_of_lt_of_le hq h.keep.size)).trans (h.keep.block q hq hn)⟩, h.own⟩
theorem keep_all {W W' : World} (b : Below W.heap.size W W') (S : Nat → Prop) : Keep S W W' := Keep.of_below b (fun k hk _ => hk)
theorem isf_of {l : Nat} {xs : List Fld} {J : Nat → (Nat → Prop) → World → Prop} {O0 : Nat → Prop} {N : Nat} {Wb : World}
    (hK : ∀ i O W W', J i O W → Below W.heap.size W W' → J i O W')
    (hY : ∀ i x O W, (xs.map fun f => #[fV f])[i]? = some x → J i O W → N ≤ W.heap.size → YieldAt Fence.wide 0 Tryz.prog l x W fun e W' => e = .returned (.bool true) ∧ ∃ O' : Nat → Prop, J (i + 1) O' W' ∧ (∀ k, O' k → O k ∨ W.heap.size ≤ k) ∧ Keep (fun k => ¬ O k) W W')
    (hsz : N ≤ Wb.heap.size) : ISf l xs (fun W => Keep (fun k => ¬ O0 k) Wb W) (St J O0 Wb) := by
  refine ⟨?_, ?_, ?_⟩
  · rintro i W ⟨O, _, hp⟩; exact hp.keep
  · rintro i W W' ⟨O, hj, hp⟩ b
    exact ⟨O, hK _ _ _ _ hj b, past_below hp b⟩
  · rintro i p W hi ⟨O, hj, hp⟩
    obtain ⟨fn, tmps, assign, body, hy, hR⟩ := hY i #[fV p] O W (by rw [List.getElem?_map, hi]; rfl) hj (Nat.le_trans hsz hp.keep.size)
    refine ⟨fn, tmps, assign, body, hy, hR.mono fun e W2 h => ⟨h.1, ?_⟩⟩
    obtain ⟨_, O', h1, h2, h3⟩ := h
    exact ⟨O', h1, hp.next h2 h3⟩
set_option maxHeartbeats 1000000 in
set_option maxRecDepth 100000 in
theorem flag_s {l yb : Nat} {xs : List Fld} {F : World → Prop} {S : Nat → World → Prop} (H : ISf l xs F S) (hF : ∀ W, F W → W.cell? ⟨yb, 0, none⟩ = some (.func (.yield l) #[] #[])) (x : BitVec 32) (i n : Nat) (W : World) (hi : i < 32)
    (hat : xs[n]? = some (bitN x i, 1)) (hS : S n W) :
    CallsIn Fence.wide 0 Tryz.prog 89 #[.int .u32 x.toNat, .int .i64 i, .pointer (some ⟨yb, 0, none⟩)] W fun e W' => e = .returned (.bool true) ∧ S (n + 1) W' := by
  have hd := H.later _ _ _ hS (Below.refl _ W).drew
  have x0 := hF _ (H.pf _ _ hd)
  have i1 : (0 : Int) ≤ (i : Int) := by omega
  have i2 : (i : Int) < 32 := by omega
  have hb := bit1_32 x i
  have hst := H.step n _ W.drew hat hd
  have hw64 : IntKind.i64.wrap (bitN x i : Int) = (bitN x i : Int) := IntWalk.i64_in _ (by have := bitN_le x i; omega)
  generalize bitN x i = z at *
  have HS := Lib.hid hst
  have HH := Lib.hid (And.intro H hF)
  clear hS hd hst H hF
  refine callsIn_of_wp Tryz.func89 rfl trivial ?_ rfl
  simp only [Tryz.ntmps89, List.size_toArray, List.length_cons, List.length_nil, Nat.reduceAdd, Nat.reduceSub, Array.replicate_succ, Array.replicate_zero, List.push_toArray, List.append_toArray, List.nil_append, List.cons_append]
  gi_wp2
  refine wpIn_region_F (S := (fun w' => w'.cell? ⟨yb, 0, none⟩ = some (.func (.yield l) #[] #[]))) (by kernel_rfl) ?_ (fun hHeld => ?_)
  · exact x0
  generalize W.drew = X at *
  refine wpAnyF_take (i := 0) (v := ?_) rfl (by kernel_rfl) (by kernel_rfl) (by kernel_rfl) (fun _ _ _ h => h) (Or.inl ⟨by kernel_rfl, ?_⟩) (by assumption) ?_
  rotate_left
  · intro w hSw
    try dsimp only at hSw
    go_simp
    try with_reducible rfl
  simp only [zA, zS, zZ, Act.put, zP, zQ, zR]
  refine wpAnyF_take (i := 1) (v := ?_) rfl (by kernel_rfl) (by kernel_rfl) (by kernel_rfl) (fun _ _ _ h => h) (Or.inl ⟨by kernel_rfl, ?_⟩) (by assumption) ?_
  rotate_left
  · intro w hSw
    try dsimp only at hSw
    go_simp
    try with_reducible rfl
  simp only [zA, zS, zZ, Act.put, zP, zQ, zR]
  refine wpAnyF_take (i := 2) (v := ?_) rfl (by kernel_rfl) (by kernel_rfl) (by kernel_rfl) (fun _ _ _ h => h) (Or.inl ⟨by kernel_rfl, ?_⟩) (by assumption) ?_
  rotate_left
  · intro w hSw
    try dsimp only at hSw
    go_simp
    try with_reducible rfl
  simp only [zA, zS, zZ, Act.put, zP, zQ, zR]
  refine wpAnyF_take (i := 3) (v := ?_) rfl (by kernel_rfl) (by kernel_rfl) (by kernel_rfl) (fun _ _ _ h => h) (Or.inl ⟨by kernel_rfl, ?_⟩) (by assumption) ?_
  rotate_left
  · intro w hSw
    try dsimp only at hSw
    go_simp
    try with_reducible rfl
  simp only [zA, zS, zZ, Act.put, zP, zQ, zR]
  refine wpAnyF_take (i := 4) (v := ?_) rfl (by kernel_rfl) (by kernel_rfl) (by kernel_rfl) (fun _ _ _ h => h) (Or.inl ⟨by kernel_rfl, ?_⟩) (by assumption) ?_
  rotate_left
  · intro w hSw
    try dsimp only at hSw
    go_simp
    try with_reducible rfl
  simp only [zA, zS, zZ, Act.put, zP, zQ, zR]
  refine wpAnyF_take (i := 5) (v := ?_) rfl (by kernel_rfl) (by kernel_rfl) (by kernel_rfl) (fun _ _ _ h => h) (Or.inl ⟨by kernel_rfl, ?_⟩) (by assumption) ?_
  rotate_left
  · intro w hSw
    try dsimp only at hSw
    go_simp
    try with_reducible rfl
  simp only [zA, zS, zZ, Act.put, zP, zQ, zR]
  refine wpAnyF_take (i := 6) (v := ?_) rfl (by kernel_rfl) (by kernel_rfl) (by kernel_rfl) (fun _ _ _ h => h) (Or.inl ⟨by kernel_rfl, ?_⟩) (by assumption) ?_
  rotate_left
  · intro w hSw
    try dsimp only at hSw
    go_simp
    try with_reducible rfl
  simp only [zA, zS, zZ, Act.put, zP, zQ, zR]
  clear hHeld
  refine readyF (i := 7) rfl (by kernel_rfl) (by kernel_rfl) (fun K_ hK => ?_)
  refine wpInF_yield (.tmp 6) l [.tmp 12] _ [fV (z, 1)] (by rfl) (by rfl) (by rfl) HS.out ?_
  rintro e W' ⟨rfl, hS'⟩
  refine ⟨_, rfl, ?_⟩
  have HS' := Lib.hid hS'
  refine hK.out _ _ (HH.out.2 _ (HH.out.1.pf _ _ hS')) (fun hHeld => ?_)
  clear hK K_ hS'
  try simp only [zA, zS, zZ, Act.put, zP, zQ, zR]
  refine wpAnyF_take (i := 8) (v := ?_) rfl (by kernel_rfl) (by kernel_rfl) (by kernel_rfl) (fun _ _ _ h => h) (Or.inl ⟨by kernel_rfl, ?_⟩) (by assumption) ?_
  rotate_left
  · intro w hSw
    try dsimp only at hSw
    go_simp
    try with_reducible rfl
  simp only [zA, zS, zZ, Act.put, zP, zQ, zR]
  clear hHeld
  refine wpAnyF_done (by kernel_rfl) ?_ _
  gi_wp2
  exact ⟨rfl, _, results_tmp rfl _ _ _, rfl, HS'.out⟩
end Go.Proofs.YtppcdmbpbbjecaaGreat
