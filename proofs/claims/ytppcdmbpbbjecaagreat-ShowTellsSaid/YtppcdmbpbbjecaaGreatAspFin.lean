/- Kernels: contracts of Clone, held.Own, free.Own, rows, Take, New, Show; what wakes holds. Nothing that was there is turned. -/
import Derived.Test.YtppcdmbpbbjecaaGreatAspJ
import Derived.Deep.CutRange
namespace Go.Proofs.YtppcdmbpbbjecaaGreat
open List renaming getElem_toArray → zA, getElem_cons_succ → zS, getElem_cons_zero → zZ, setIfInBounds_toArray → zP, set_cons_zero → zQ, set_cons_succ → zR
open Go.RowKit Rf Mem Bv AM
attribute [local go_sem ↓] run_max2 run_min2
theorem below_own' {n : Nat} {a w w' : World} {v : Value} (h : Below n a w) (hg : w.grownBy w' v.ownBlock) (hn : n ≤ w.heap.size) (hv : ∀ g, v.ownBlock = some g → n ≤ g) : Below n a w' := below_own h hg hn hv
theorem info_held : (Tryz.prog.info? 75).map (fun i => (i.zero, i.size, i.bytes)) = some (some (.agg zHeld), 23, 144) := by kernel_rfl
end Go.Proofs.YtppcdmbpbbjecaaGreat
namespace Go.Proofs.YtppcdmbpbbjecaaGreat
open List renaming getElem_toArray → zA, getElem_cons_succ → zS, getElem_cons_zero → zZ, setIfInBounds_toArray → zP, set_cons_zero → zQ, set_cons_succ → zR
open Go.RowKit Rf Mem Bv AM
attribute [local go_sem ↓] run_max2 run_min2
theorem own_base_le {w : World} {base base' e sz n : Nat} {v : Value} {xs : List Value} (h : w.ownsRow base e sz v n xs) (hb : base' ≤ base) : w.ownsRow base' e sz v n xs :=
  ⟨h.1, h.2.imp id (fun ⟨g, cap, cur, q1, q2, q3⟩ => ⟨g, cap, cur, q1, by omega, q3⟩)⟩
theorem there_new (w : World) (zs : Array Value) (T : TypeId) : (w.alloc (.cells zs T)).heap[w.heap.size]? = some (.cells zs T (0, 0)) := new_at rfl _
theorem path_size {cs : List Value} (h : cs.length = 3) : (Tryz.prog.info? 71).map (·.size) = some cs.length := by rw [h]; kernel_rfl
/-- the route that the law's wakes hold -/
abbrev hcL (st : Int) (v3 v4 v5 : Value) (sh : Bool) : List Value := [.int .i64 1, .int .i64 0, .int .i64 0, v3, v4, v5, .int .u8 st, .int .i64 0, .bool false, .bool false, .bool false, .bool false, .bool false, .bool false, .bool false, .bool false, .bool false, .bool false, .bool false, .bool false, .bool false, .int .i64 0, .bool sh]
/-- a row of triples in blocks behind block n -/
def OwnT (n : Nat) (W : World) (E : TypeId) (v : Value) (l : List T3) : Prop := W.ownsRow n E 3 v l.length (t3s l)
theorem OwnT.later {n : Nat} {W W' : World} {E : TypeId} {v : Value} {l : List T3} (h : OwnT n W E v l) (b : Below W.heap.size W W') : OwnT n W' E v l := own_bel h b
theorem OwnT.keep {n : Nat} {W W' : World} {E : TypeId} {v : Value} {l : List T3} (h : OwnT n W E v l) (hk : ∀ q, n ≤ q → W'.heap[q]? = W.heap[q]?) : OwnT n W' E v l := own_later h (fun q hq => hk q (own_base h hq).1)
theorem OwnT.at_ {n : Nat} {W : World} {E : TypeId} {v : Value} {l : List T3} (h : OwnT n W E v l) : TAt W v l := sliceAt_of_own h
theorem rng3 {W : World} {g : Nat} {st : Int} {v3 v4 v5 : Value} {sh : Bool} {T : TypeId} {f : Nat × Nat} (h : W.heap[g]? = some (.cells (hcL st v3 v4 v5 sh).toArray T f)) : W.rangeAt g 1 [.int .i64 0, .int .i64 0, v3] := fun j v hv => by
  rw [cell_at h]
  match j, hv with
  | 0, hv => cases hv; rfl
  | 1, hv => cases hv; rfl
  | 2, hv => cases hv; rfl
end Go.Proofs.YtppcdmbpbbjecaaGreat
namespace Go.Proofs.YtppcdmbpbbjecaaGreat
open List renaming getElem_toArray → zA, getElem_cons_succ → zS, getElem_cons_zero → zZ, setIfInBounds_toArray → zP, set_cons_zero → zQ, set_cons_succ → zR
open Go.RowKit Rf Mem Bv AM
attribute [local go_sem ↓] run_max2 run_min2
theorem wpList_new {P : Program} {w : World} {ops : Array Oper} {rest : List Oper} {o : Oper} {a : Act} {Q : Exit → Act → World → Prop} (hgd : o.guard = none) (T : TypeId) (z : Value) (zs : Array Value) (hi : (P.info? T).map (·.zero) = some (some z)) (hz : z.cells = zs) (ho : o.op = .alloc T)
    (h : wpList P ops Q rest (a.put o.dst (.pointer (some ⟨w.heap.size, 0, none⟩))) (w.alloc (.cells zs T))) : wpList P ops Q (o :: rest) a w :=
  wpList_plain hgd fun _ hK => Node.wp_new T z zs hi hz ho (hK _ _ h)
theorem ker_zero : ∃ z, (Tryz.prog.info? 41).map (·.zero) = some (some z) ∧ z.cells.size = 74 := by
  have h1 : (((Tryz.prog.info? 41).bind (·.zero)).map (·.cells.size)) = some 74 := by kernel_rfl
  obtain ⟨z, h2, h3⟩ := Option.map_eq_some_iff.1 h1
  obtain ⟨i, h4, h5⟩ := Option.bind_eq_some_iff.1 h2
  exact ⟨z, by rw [h4]; simp [h5], h3⟩
theorem ker_size {cs : List Value} (h : cs.length = 74) : (Tryz.prog.info? 41).map (·.size) = some cs.length := by rw [h]; kernel_rfl
/-- a kernel's cells -/
abbrev kcL (nx : Int) (v : Value) (R : List Value) : List Value := .int .i64 nx :: v :: R
theorem own_one {W : World} {base e : Nat} {v : Value} {cs : List Value} (h : W.ownsRow base e 23 v 1 cs) : ∃ g c cur, v = .slice (some ⟨g, 0, none⟩) 1 c ∧ base ≤ g ∧ W.heap[g]? = some (.cells cur e (0, 0)) ∧ 1 ≤ c ∧ c ≤ maxLen ∧ 23 ≤ cur.size ∧ cur.toList.take 23 = cs := by
  rcases h.2 with ⟨_, h0⟩ | ⟨g, c, cur, h1, h2, h3, h4, h5, h6, h7⟩
  · omega
  · exact ⟨g, c, cur, h1, h2, h3, h4, h5, by rw [h6]; omega, by simpa using h7⟩
/-- block g begins with a route's cells -/
structure Blk (W : World) (g : Nat) (cs : List Value) : Prop where
  h : ∃ cur, W.heap[g]? = some (.cells cur 75 (0, 0)) ∧ 23 ≤ cur.size ∧ cur.toList.take 23 = cs
theorem Blk.later {W W' : World} {g : Nat} {cs : List Value} (h : Blk W g cs) (b : Below W.heap.size W W') : Blk W' g cs := by
  obtain ⟨cur, h1, h2⟩ := h.h
  exact ⟨cur, var_later h1 b, h2⟩
theorem Blk.keep {W W' : World} {g : Nat} {cs : List Value} (h : Blk W g cs) (hk : W'.heap[g]? = W.heap[g]?) : Blk W' g cs := by
  obtain ⟨cur, h1, h2⟩ := h.h
  exact ⟨cur, hk.trans h1, h2⟩
theorem Blk.rng {W : World} {g : Nat} {cs : List Value} (h : Blk W g cs) : W.rangeAt g 0 cs := fun j v hv => by
  obtain ⟨cur, h1, h2, h3⟩ := h.h
  rw [Nat.zero_add, cell_at h1, ← Array.getElem?_toList]
  rw [← h3, List.getElem?_take] at hv
  split at hv
  · exact hv
  · cases hv
theorem Blk.lt {W : World} {g : Nat} {cs : List Value} (h : Blk W g cs) : g < W.heap.size := by
  obtain ⟨cur, h1, _⟩ := h.h
  exact lt_at h1
theorem Blk.there {W : World} {g : Nat} {cs : List Value} (h : Blk W g cs) : W.there g 0 23 := by
  obtain ⟨cur, h1, h2, _⟩ := h.h
  exact there_of h1 0 23 (by omega)
theorem Blk.fill {W : World} {g : Nat} {cs : List Value} (h : Blk W g cs) (M : List Value) (hM : M.length = 23) : Blk (W.setCells g 0 M.toArray.toList) g M := by
  obtain ⟨cur, h1, h2, _⟩ := h.h
  refine ⟨_, setCells_at _ _ h1, by rw [setL_size]; exact h2, ?_⟩
  rw [setL_list _ _ _ (by simp; omega)]
  simp [hM]
theorem Blk.set {W : World} {g : Nat} {cs : List Value} (h : Blk W g cs) (i : Nat) (u : Value) : ∃ cs', Blk (W.setCell ⟨g, i, none⟩ u) g cs' := by
  obtain ⟨cur, h1, h2, _⟩ := h.h
  exact ⟨_, _, set_at h1 i u, by simpa using h2, rfl⟩
theorem Blk.sl {W : World} {g c : Nat} {cs : List Value} (h : Blk W g cs) (hcs : cs.length = 23) (h1 : 1 ≤ c) (h2 : c ≤ maxLen) : SliceAt W 23 (.slice (some ⟨g, 0, none⟩) 1 c) 1 cs :=
  ⟨some ⟨g, 0, none⟩, c, rfl, h1, h2, by rw [hcs], .inr ⟨g, 0, rfl, h.lt, fun i u hu => h.rng i u hu⟩⟩
theorem hc_held {W : World} {st : Int} {v3 v5 : Value} {sh : Bool} {l3 l5 : List T3} (h3 : TAt W v3 l3) (h5 : TAt W v5 l5) : HeldAt W (hcL st v3 (.slice none 0 0) v5 sh) ⟨1, 0, 0, l3, [], l5, st, 0, List.replicate 12 false, false, 0, sh⟩ :=
  ⟨rfl, rfl, rfl, rfl, ⟨_, rfl, h3⟩, ⟨_, rfl, SliceAt.nil_ _ _⟩, ⟨_, rfl, h5⟩, rfl, rfl, rfl, fun i hi => by
    match i, hi with
    | 0, _ | 1, _ | 2, _ | 3, _ | 4, _ | 5, _ | 6, _ | 7, _ | 8, _ | 9, _ | 10, _ | 11, _ => rfl, rfl, rfl, rfl⟩
/-- block q holds elements of the slice v, of n -/
def VB (v : Value) (n q : Nat) : Prop := 0 < n ∧ v.ownBlock = some q
theorem slice_keep {S : Nat → Prop} {W W' : World} {sz n : Nat} {v : Value} {cs : List Value} (h : SliceAt W sz v n cs) (hk : Keep S W W') (hS : ∀ q, VB v n q → S q) : SliceAt W' sz v n cs := by
  obtain ⟨A, c, rfl, h1, h2, h3, h4⟩ := h
  refine ⟨A, c, rfl, h1, h2, h3, ?_⟩
  rcases Nat.eq_zero_or_pos n with h0 | h0
  · exact .inl h0
  rcases h4 with h4 | ⟨b, off, rfl, hlt, hc⟩
  · exact .inl h4
  · exact .inr ⟨b, off, rfl, Nat.lt_of_lt_of_le hlt hk.size, fun i u hu => (World.cell?_of_block (a := ⟨b, off + i, none⟩) (hk.block b hlt (hS b ⟨h0, rfl⟩))).trans (hc i u hu)⟩
theorem vb_lt {W : World} {sz n : Nat} {v : Value} {cs : List Value} (h : SliceAt W sz v n cs) {q : Nat} (hq : VB v n q) : q < W.heap.size := by
  obtain ⟨hn, hq⟩ := hq
  obtain ⟨b, off, c, rfl, _, _, hlt, _⟩ := h.pos hn
  cases hq; exact hlt
theorem keep_set {W : World} {g i : Nat} {u : Value} : Keep (fun q => q ≠ g) W (W.setCell ⟨g, i, none⟩ u) := (Keep.refl _ _).setCell (fun _ h => h rfl) _
theorem keep_cells {g : Nat} : ∀ (vs : List Value) (o : Nat) {W : World}, Keep (fun q => q ≠ g) W (W.setCells g o vs)
  | [], _, _ => Keep.refl _ _
  | v :: r, o, W => by rw [World.setCells]; exact keep_set.trans (keep_cells r (o + 1))
/-- what the loop of free.Own holds -/
structure FO (w W : World) (nx : Int) (R : List Value) (zk : Array Value) (g c : Nat) (v3 v5 : Value) (l3 l5 : List T3) : Prop where
  bel : Below w.heap.size w W
  k : W.heap[w.heap.size]? = some (.cells (kcL nx (.slice (some ⟨g, 0, none⟩) 1 c) R).toArray 41 (0, 0))
  z : W.heap[w.heap.size + 1]? = some (.cells zk 41 (0, 0))
  hg : w.heap.size + 2 ≤ g
  b : Blk W g (hcL 2 v3 (.slice none 0 0) v5 false)
  t3 : TAt W v3 l3
  t5 : TAt W v5 l5
  d3 : ∀ q, VB v3 l3.length q → q ≠ w.heap.size ∧ q ≠ w.heap.size + 1 ∧ q ≠ g
  d5 : ∀ q, VB v5 l5.length q → q ≠ w.heap.size ∧ q ≠ w.heap.size + 1 ∧ q ≠ g
theorem FO.later {w W W' : World} {nx : Int} {R : List Value} {zk : Array Value} {g c : Nat} {v3 v5 : Value} {l3 l5 : List T3} (h : FO w W nx R zk g c v3 v5 l3 l5) (b : Below W.heap.size W W') : FO w W' nx R zk g c v3 v5 l3 l5 :=
  ⟨below_step h.bel b, var_later h.k b, var_later h.z b, h.hg, h.b.later b, h.t3.later b, h.t5.later b, h.d3, h.d5⟩
end Go.Proofs.YtppcdmbpbbjecaaGreat
namespace Go.Proofs.YtppcdmbpbbjecaaGreat
open List renaming getElem_toArray → zA, getElem_cons_succ → zS, getElem_cons_zero → zZ, setIfInBounds_toArray → zP, set_cons_zero → zQ, set_cons_succ → zR
open Go.RowKit Rf Mem Bv AM
attribute [local go_sem ↓] run_max2 run_min2
/-- the rows behind a tick, as far as place k -/
def midL (occ : BitVec 32) (s : Bool) (free : List Int) (k : Nat) : List Int := rowL occ s free k ++ free.drop k
theorem midL_len {occ : BitVec 32} {s : Bool} {free : List Int} {k : Nat} (h : free.length = 24) (hk : k ≤ 24) : (midL occ s free k).length = 24 := by
  simp only [midL, List.length_append, rowL_len, List.length_drop, h]; omega
theorem midL_at {occ : BitVec 32} {s : Bool} {free : List Int} {k : Nat} {z : Int} (hz : free[k]? = some z) : (midL occ s free k)[k]? = some z := by
  unfold midL
  rw [List.getElem?_append_right (by rw [rowL_len]; exact Nat.le_refl _), rowL_len, Nat.sub_self, List.getElem?_drop]; simpa using hz
theorem midL_succ {occ : BitVec 32} {s : Bool} {free : List Int} {k : Nat} {z : Int} (hz : free[k]? = some z) : midL occ s free (k + 1) = (midL occ s free k).set k (rowV (!s && !bitV occ k) z) := by
  have hlt := (List.getElem?_eq_some_iff.1 hz).1
  unfold midL
  rw [rowL_succ, show free.getD k 0 = z by simp [List.getD, hz], List.set_append_right _ _ (by rw [rowL_len]; exact Nat.le_refl _), rowL_len, Nat.sub_self, List.append_assoc]
  congr 1
  rw [List.drop_eq_getElem_cons hlt]; rfl
theorem withFree_set {M : List Value} {f : List Int} {k : Nat} {z : Int} (hl : M.length = 29) (hf : f.length = 24) (hk : k < 24) : withFree M (f.set k z) = (withFree M f).set (1 + k) (.int .i64 z) := by
  unfold withFree
  have h1 : (M.take 1).length = 1 := by simp; omega
  rw [List.set_append_right _ _ (by rw [h1]; omega), h1, show 1 + k - 1 = k by omega, List.set_append_left _ _ (by simp [ints, hf]; exact hk)]
  congr 2
  simp only [ints]; rw [List.map_set]
/-- what the loop of rows holds -/
structure RW (w W : World) (L M' : List Value) (zm : Array Value) : Prop where
  bel : Below w.heap.size w W
  v : V2 W w.heap.size (w.heap.size + 1) L M'
  z : W.heap[w.heap.size + 1 + 1]? = some (.cells zm 35 (0, 0))
theorem RW.later {w W W' : World} {L M' : List Value} {zm : Array Value} (h : RW w W L M' zm) (b : Below W.heap.size W W') : RW w W' L M' zm := ⟨below_step h.bel b, h.v.later b, var_later h.z b⟩
theorem RW.set {w W : World} {L M' : List Value} {zm : Array Value} (h : RW w W L M' zm) (i : Nat) (u : Value) : RW w (W.setCell ⟨w.heap.size + 1, i, none⟩ u) L (M'.set i u) zm :=
  ⟨below_set h.bel (by omega) i u, ⟨set_far h.v.l (by simp) u, by have h1 := set_at h.v.m i u; rw [List.setIfInBounds_toArray] at h1; exact h1⟩, set_far h.z (by simp) u⟩
abbrev zImg : Array Value := #[.int .i64 0, .int .i64 0, .int .i64 0, .int .i64 0, .int .i64 0, .int .i64 0, .int .i64 0, .int .i64 0, .int .i64 0, .int .i64 0, .int .i64 0, .int .i64 0, .int .i64 0, .int .i64 0, .int .i64 0, .int .i64 0, .int .i64 0, .int .i64 0, .int .i64 0, .int .i64 0, .int .i64 0, .int .i64 0, .int .i64 0, .int .i64 0, .int .i64 0, .int .u32 0, .int .u32 0, .int .u32 0, .int .u32 0]
set_option maxHeartbeats 4000000 in
set_option maxRecDepth 100000 in
theorem refrows_c (L M : List Value) (ns nsig : Nat) (clr st age : Int) (A A1 : Option Addr) (c c1 : Nat) (free : List Int) (occ nor rev lam : BitVec 32) (s : Bool) (w : World) (hs : s = decide (st < age)) (hL : LayF L ns nsig clr st A c A1 c1) (hM : ImgF M age free occ nor rev lam) :
    Calls Tryz.prog 99 #[.agg L.toArray, .agg M.toArray] w fun e w' => e = .returned (.agg (withFree M (rowL occ s free 24)).toArray) ∧ Below w.heap.size w w' := by
  have a0 := below_new w (.cells L.toArray 29)
  have a1 := below_new (w.alloc (.cells L.toArray 29)) (.cells M.toArray 35)
  have a2 := below_new ((w.alloc (.cells L.toArray 29)).alloc (.cells M.toArray 35)) (.cells zImg 35)
  have F : RW w (((w.alloc (.cells L.toArray 29)).alloc (.cells M.toArray 35)).alloc (.cells zImg 35)) L M zImg :=
    ⟨below_step (below_step a0 a1) a2, ⟨old_at (old_at (new_at rfl _) _) _, old_at (new_at (by simp) _) _⟩, new_at (by simp) _⟩
  have szL := lay_size hL.len
  have HS := Lib.hid hs
  clear a0 a1 a2 hs
  go_enter Tryz.func99, Tryz.ntmps99
  go_upto_region 1 with (fail)
  generalize ((w.alloc (.cells L.toArray 29)).alloc (.cells M.toArray 35)).alloc (.cells zImg 35) = W0 at *
  go_wp2
  go_loopw [5] (fun i wr => ∃ k : Nat, k ≤ 24 ∧ i = .int .i64 k ∧ RW w wr L (withFree M (midL occ s free k)) zImg) (fun i _ => 24 - (intOf i).toNat)
  case atStart => exact ⟨0, by omega, rfl, by rw [show midL occ s free 0 = free by simp [midL, rowL], hM.id_]; exact F⟩
  case round =>
    clear F
    obtain ⟨k, hk, rfl, F⟩ := hrel
    by_cases hlt : k < 24
    · obtain ⟨z, hz⟩ : ∃ z, free[k]? = some z := ⟨_, List.getElem?_eq_getElem (by rw [hM.fl]; exact hlt)⟩
      have hMk := hM.with_ (midL_len (occ := occ) (s := s) (k := k) hM.fl hk)
      have hzk := hMk.free k z (midL_at hz)
      have hset : withFree M (midL occ s free (k + 1)) = (withFree M (midL occ s free k)).set (1 + k) (.int .i64 (rowV (!s && !bitV occ k) z)) := by
        rw [midL_succ hz, withFree_set hM.len (midL_len hM.fl hk) hlt]
      have HSE := Lib.hid hset
      obtain ⟨N, hN⟩ : ∃ N, withFree M (midL occ s free k) = N := ⟨_, rfl⟩
      have HN := Lib.hid hN
      rw [hN] at F hMk hzk HSE
      have szN := img_size hMk.len
      have i1 : (k : Int) < 24 := by omega
      have hst := hL.st
      obtain ⟨b, hb⟩ : ∃ b, bitV occ k = b := ⟨_, rfl⟩
      rw [hb] at HSE
      have HB := Lib.hid hb.symm
      clear hset hz hN hb
      go_upto_region 4 with (fail)
      refine wp_region_held_drew (S := (fun w' => w'.rangeAt w.heap.size 0 L ∧ w'.cell? ⟨w.heap.size + 1, 25, none⟩ = some (.int .u32 occ.toNat))) (by kernel_rfl) ?_ (fun hHeld => ?_)
      · exact ⟨range_of F.v.l, cell_list F.v.m hMk.occ⟩
      replace F : RW w wr.drew L N zImg := F.later (Below.refl _ wr).drew
      generalize wr.drew = V at *
      refine Node.tk 0 ?_ rfl ?_ ?_
      rotate_left
      · intro w hSw; (try dsimp only at hSw); go_simp; try with_reducible rfl
      simp only [zA, zS, zZ, Act.put, zP, zQ, zR]
      refine wpAnyH_take (i := 1) (v := .agg (L : List Value).toArray) rfl (by kernel_rfl) (by kernel_rfl) (by kernel_rfl) (fun _ _ _ h => h) (yieldsIf_load_mid (by kernel_rfl) 29 (.tmp 2) (by kernel_rfl) (w.heap.size) 0 (by kernel_rfl) L _ (fun w' h => h.1) (by first | exact Tryz.underlying29) rfl (by first | assumption | (simp only [*]; kernel_rfl))) (by assumption) ?_
      try simp only [zA, zS, zZ, Act.put, zP, zQ, zR]
      refine Node.tk 13 ?_ rfl ?_ ?_
      rotate_left
      · intro w hSw; (try dsimp only at hSw); go_simp; try with_reducible rfl
      simp only [zA, zS, zZ, Act.put, zP, zQ, zR]
      refine Node.tk 14 ?_ rfl ?_ ?_
      rotate_left
      · intro w hSw; (try dsimp only at hSw); go_simp; try with_reducible rfl
      simp only [zA, zS, zZ, Act.put, zP, zQ, zR]
      refine Node.tk 15 ?_ rfl ?_ ?_
      rotate_left
      · intro w hSw; (try dsimp only at hSw); go_simp; try with_reducible rfl
      simp only [zA, zS, zZ, Act.put, zP, zQ, zR]
      refine Node.tk 18 ?_ rfl ?_ ?_
      rotate_left
      · intro w hSw; (try dsimp only at hSw); go_simp; try with_reducible rfl
      simp only [zA, zS, zZ, Act.put, zP, zQ, zR]
      clear hHeld
      cases s
      · skip
        refine wpAnyH_ready (rs := [2, 16]) (by kernel_rfl) (by simp) ?_
        refine AllReadyH.cons rfl (fun K hK => ?_) (AllReadyH.cons rfl (fun K hK => ?_) AllReadyH.nil)
        · skip
          refine wp_load_mid 35 (.tmp 3) (by rfl) (w.heap.size + 1) 0 (by rfl) N _ (range_of F.v.m) Tryz.underlying35 rfl szN ?_
          refine hK.out _ _ ⟨range_of F.v.l, cell_list F.v.m hMk.occ⟩ (fun _ => ?_)
          clear hK K
          try simp only [zA, zS, zZ, Act.put, zP, zQ, zR]
          refine wpAnyH_ready (rs := [3, 16]) (by kernel_rfl) (by simp) ?_
          refine AllReadyH.cons rfl (fun K hK => ?_) (AllReadyH.cons rfl (fun K hK => ?_) AllReadyH.nil)
          · skip
            refine Node.wp_fn 84 [.tmp 11, .tmp 12] _ [.agg L.toArray, .agg N.toArray] (by rfl) (by rfl) (enters Tryz.func84 (by kernel_rfl) rfl) (refStale_c L N age st false V HS.out hst hMk.age) ?_
            rintro e V' ⟨rfl, bF⟩
            refine ⟨_, rfl, ?_⟩
            replace F := F.later bF
            clear bF
            generalize V' = V at *
            refine hK.out _ _ ⟨range_of F.v.l, cell_list F.v.m hMk.occ⟩ (fun hHeld => ?_)
            clear hK K
            try simp only [zA, zS, zZ, Act.put, zP, zQ, zR]
            refine Node.tk 4 ?_ rfl ?_ ?_
            rotate_left
            · intro w hSw; (try dsimp only at hSw); go_simp; try with_reducible rfl
            simp only [zA, zS, zZ, Act.put, zP, zQ, zR]
            refine Node.tk 5 ?_ rfl ?_ ?_
            rotate_left
            · intro w hSw; (try dsimp only at hSw); go_simp; try with_reducible rfl
            simp only [zA, zS, zZ, Act.put, zP, zQ, zR]
            refine Node.tk 6 ?_ rfl ?_ ?_
            rotate_left
            · intro w hSw; (try dsimp only at hSw); go_simp; try with_reducible rfl
            simp only [zA, zS, zZ, Act.put, zP, zQ, zR]
            refine Node.tk 7 ?_ rfl ?_ ?_
            rotate_left
            · intro w hSw; (try dsimp only at hSw); go_simp; try with_reducible rfl
            simp only [zA, zS, zZ, Act.put, zP, zQ, zR]
            refine Node.tk 8 ?_ rfl ?_ ?_
            rotate_left
            · intro w hSw; (try dsimp only at hSw); go_simp; try with_reducible rfl
            simp only [zA, zS, zZ, Act.put, zP, zQ, zR]
            refine Node.tk 9 ?_ rfl ?_ ?_
            rotate_left
            · intro w hSw; (try dsimp only at hSw); go_simp; try with_reducible rfl
            simp only [zA, zS, zZ, Act.put, zP, zQ, zR]
            clear hHeld
            refine wpAnyH_ready (rs := [10, 16]) (by kernel_rfl) (by simp) ?_
            refine AllReadyH.cons rfl (fun K hK => ?_) (AllReadyH.cons rfl (fun K hK => ?_) AllReadyH.nil)
            · skip
              refine Node.wp_fn 85 [.tmp 18, .tmp 19] _ [.int .u32 occ.toNat, .int .i64 k] (by rfl) (by rfl) (enters Tryz.func85 (by kernel_rfl) rfl) (refbit_c occ k b V HB.out) ?_
              rintro e V' ⟨rfl, rfl⟩
              refine ⟨_, rfl, ?_⟩
              generalize V' = V at *
              refine hK.out _ _ ⟨range_of F.v.l, cell_list F.v.m hMk.occ⟩ (fun hHeld => ?_)
              clear hK K
              try simp only [zA, zS, zZ, Act.put, zP, zQ, zR]
              refine Node.tk 11 ?_ rfl ?_ ?_
              rotate_left
              · intro w hSw; (try dsimp only at hSw); go_simp; try with_reducible rfl
              simp only [zA, zS, zZ, Act.put, zP, zQ, zR]
              refine Node.tk 12 ?_ rfl ?_ ?_
              rotate_left
              · intro w hSw; (try dsimp only at hSw); go_simp; try with_reducible rfl
              simp only [zA, zS, zZ, Act.put, zP, zQ, zR]
              clear hHeld
              refine Node.on 16 rfl (fun K hK => ?_)
              have xz := cell_list F.v.m hzk
              go_simp
              clear xz
              refine hK.out _ _ ⟨range_of F.v.l, cell_list F.v.m hMk.occ⟩ (fun _ => ?_)
              clear hK K
              try simp only [zA, zS, zZ, Act.put, zP, zQ, zR]
              refine Node.on 17 rfl (fun K hK => ?_)
              refine Node.wp_fn 117 [.tmp 22, .tmp 26] _ [.bool (!b), .int .i64 z] (by rfl) (by rfl) (enters Tryz.func117 (by kernel_rfl) rfl) (r3Row_c (!b) z V) ?_
              rintro e V' ⟨rfl, rfl⟩
              refine ⟨_, rfl, ?_⟩
              generalize V' = V at *
              refine hK.out _ _ ⟨range_of F.v.l, cell_list F.v.m hMk.occ⟩ (fun hHeld => ?_)
              clear hK K
              try simp only [zA, zS, zZ, Act.put, zP, zQ, zR]
              refine Node.tk 19 ?_ rfl ?_ ?_
              rotate_left
              · intro w hSw; (try dsimp only at hSw); go_simp; try with_reducible rfl
              simp only [zA, zS, zZ, Act.put, zP, zQ, zR]
              clear hHeld
              refine Node.on 20 rfl (fun K hK => ?_)
              have xz := cell_list F.v.m hzk
              have fz := free_at F.v.m (1 + k)
              go_simp
              clear xz fz
              replace F := F.set (1 + k) (.int .i64 (rowV (!b) z))
              generalize V.setCell ⟨w.heap.size + 1, 1 + k, none⟩ (.int .i64 (rowV (!b) z)) = V at *
              refine hK.out _ _ ⟨range_of F.v.l, cell_list F.v.m (by rw [List.getElem?_set_ne (by omega)]; exact hMk.occ)⟩ (fun _ => ?_)
              clear hK K
              try simp only [zA, zS, zZ, Act.put, zP, zQ, zR]
              refine wpAnyH_done (by kernel_rfl) ?_ _
              go_wp2
              go_roundw
              case rel => exact ⟨k + 1, by omega, by go_num, by rw [HSE.out]; exact F⟩
              case measure => simp [intOf]; omega
            · skip
              have xz := cell_list F.v.m hzk
              go_simp
              clear xz
              refine hK.out _ _ ⟨range_of F.v.l, cell_list F.v.m hMk.occ⟩ (fun _ => ?_)
              clear hK K
              try simp only [zA, zS, zZ, Act.put, zP, zQ, zR]
              refine Node.on 10 rfl (fun K hK => ?_)
              refine Node.wp_fn 85 [.tmp 18, .tmp 19] _ [.int .u32 occ.toNat, .int .i64 k] (by rfl) (by rfl) (enters Tryz.func85 (by kernel_rfl) rfl) (refbit_c occ k b V HB.out) ?_
              rintro e V' ⟨rfl, rfl⟩
              refine ⟨_, rfl, ?_⟩
              generalize V' = V at *
              refine hK.out _ _ ⟨range_of F.v.l, cell_list F.v.m hMk.occ⟩ (fun hHeld => ?_)
              clear hK K
              try simp only [zA, zS, zZ, Act.put, zP, zQ, zR]
              refine Node.tk 11 ?_ rfl ?_ ?_
              rotate_left
              · intro w hSw; (try dsimp only at hSw); go_simp; try with_reducible rfl
              simp only [zA, zS, zZ, Act.put, zP, zQ, zR]
              refine Node.tk 12 ?_ rfl ?_ ?_
              rotate_left
              · intro w hSw; (try dsimp only at hSw); go_simp; try with_reducible rfl
              simp only [zA, zS, zZ, Act.put, zP, zQ, zR]
              clear hHeld
              refine Node.on 17 rfl (fun K hK => ?_)
              refine Node.wp_fn 117 [.tmp 22, .tmp 26] _ [.bool (!b), .int .i64 z] (by rfl) (by rfl) (enters Tryz.func117 (by kernel_rfl) rfl) (r3Row_c (!b) z V) ?_
              rintro e V' ⟨rfl, rfl⟩
              refine ⟨_, rfl, ?_⟩
              generalize V' = V at *
              refine hK.out _ _ ⟨range_of F.v.l, cell_list F.v.m hMk.occ⟩ (fun hHeld => ?_)
              clear hK K
              try simp only [zA, zS, zZ, Act.put, zP, zQ, zR]
              refine Node.tk 19 ?_ rfl ?_ ?_
              rotate_left
              · intro w hSw; (try dsimp only at hSw); go_simp; try with_reducible rfl
              simp only [zA, zS, zZ, Act.put, zP, zQ, zR]
              clear hHeld
              refine Node.on 20 rfl (fun K hK => ?_)
              have xz := cell_list F.v.m hzk
              have fz := free_at F.v.m (1 + k)
              go_simp
              clear xz fz
              replace F := F.set (1 + k) (.int .i64 (rowV (!b) z))
              generalize V.setCell ⟨w.heap.size + 1, 1 + k, none⟩ (.int .i64 (rowV (!b) z)) = V at *
              refine hK.out _ _ ⟨range_of F.v.l, cell_list F.v.m (by rw [List.getElem?_set_ne (by omega)]; exact hMk.occ)⟩ (fun _ => ?_)
              clear hK K
              try simp only [zA, zS, zZ, Act.put, zP, zQ, zR]
              refine wpAnyH_done (by kernel_rfl) ?_ _
              go_wp2
              go_roundw
              case rel => exact ⟨k + 1, by omega, by go_num, by rw [HSE.out]; exact F⟩
              case measure => simp [intOf]; omega
          · skip
            have xz := cell_list F.v.m hzk
            go_simp
            clear xz
            refine hK.out _ _ ⟨range_of F.v.l, cell_list F.v.m hMk.occ⟩ (fun _ => ?_)
            clear hK K
            try simp only [zA, zS, zZ, Act.put, zP, zQ, zR]
            refine Node.on 3 rfl (fun K hK => ?_)
            refine Node.wp_fn 84 [.tmp 11, .tmp 12] _ [.agg L.toArray, .agg N.toArray] (by rfl) (by rfl) (enters Tryz.func84 (by kernel_rfl) rfl) (refStale_c L N age st false V HS.out hst hMk.age) ?_
            rintro e V' ⟨rfl, bF⟩
            refine ⟨_, rfl, ?_⟩
            replace F := F.later bF
            clear bF
            generalize V' = V at *
            refine hK.out _ _ ⟨range_of F.v.l, cell_list F.v.m hMk.occ⟩ (fun hHeld => ?_)
            clear hK K
            try simp only [zA, zS, zZ, Act.put, zP, zQ, zR]
            refine Node.tk 4 ?_ rfl ?_ ?_
            rotate_left
            · intro w hSw; (try dsimp only at hSw); go_simp; try with_reducible rfl
            simp only [zA, zS, zZ, Act.put, zP, zQ, zR]
            refine Node.tk 5 ?_ rfl ?_ ?_
            rotate_left
            · intro w hSw; (try dsimp only at hSw); go_simp; try with_reducible rfl
            simp only [zA, zS, zZ, Act.put, zP, zQ, zR]
            refine Node.tk 6 ?_ rfl ?_ ?_
            rotate_left
            · intro w hSw; (try dsimp only at hSw); go_simp; try with_reducible rfl
            simp only [zA, zS, zZ, Act.put, zP, zQ, zR]
            refine Node.tk 7 ?_ rfl ?_ ?_
            rotate_left
            · intro w hSw; (try dsimp only at hSw); go_simp; try with_reducible rfl
            simp only [zA, zS, zZ, Act.put, zP, zQ, zR]
            refine Node.tk 8 ?_ rfl ?_ ?_
            rotate_left
            · intro w hSw; (try dsimp only at hSw); go_simp; try with_reducible rfl
            simp only [zA, zS, zZ, Act.put, zP, zQ, zR]
            refine Node.tk 9 ?_ rfl ?_ ?_
            rotate_left
            · intro w hSw; (try dsimp only at hSw); go_simp; try with_reducible rfl
            simp only [zA, zS, zZ, Act.put, zP, zQ, zR]
            clear hHeld
            refine Node.on 10 rfl (fun K hK => ?_)
            refine Node.wp_fn 85 [.tmp 18, .tmp 19] _ [.int .u32 occ.toNat, .int .i64 k] (by rfl) (by rfl) (enters Tryz.func85 (by kernel_rfl) rfl) (refbit_c occ k b V HB.out) ?_
            rintro e V' ⟨rfl, rfl⟩
            refine ⟨_, rfl, ?_⟩
            generalize V' = V at *
            refine hK.out _ _ ⟨range_of F.v.l, cell_list F.v.m hMk.occ⟩ (fun hHeld => ?_)
            clear hK K
            try simp only [zA, zS, zZ, Act.put, zP, zQ, zR]
            refine Node.tk 11 ?_ rfl ?_ ?_
            rotate_left
            · intro w hSw; (try dsimp only at hSw); go_simp; try with_reducible rfl
            simp only [zA, zS, zZ, Act.put, zP, zQ, zR]
            refine Node.tk 12 ?_ rfl ?_ ?_
            rotate_left
            · intro w hSw; (try dsimp only at hSw); go_simp; try with_reducible rfl
            simp only [zA, zS, zZ, Act.put, zP, zQ, zR]
            clear hHeld
            refine Node.on 17 rfl (fun K hK => ?_)
            refine Node.wp_fn 117 [.tmp 22, .tmp 26] _ [.bool (!b), .int .i64 z] (by rfl) (by rfl) (enters Tryz.func117 (by kernel_rfl) rfl) (r3Row_c (!b) z V) ?_
            rintro e V' ⟨rfl, rfl⟩
            refine ⟨_, rfl, ?_⟩
            generalize V' = V at *
            refine hK.out _ _ ⟨range_of F.v.l, cell_list F.v.m hMk.occ⟩ (fun hHeld => ?_)
            clear hK K
            try simp only [zA, zS, zZ, Act.put, zP, zQ, zR]
            refine Node.tk 19 ?_ rfl ?_ ?_
            rotate_left
            · intro w hSw; (try dsimp only at hSw); go_simp; try with_reducible rfl
            simp only [zA, zS, zZ, Act.put, zP, zQ, zR]
            clear hHeld
            refine Node.on 20 rfl (fun K hK => ?_)
            have xz := cell_list F.v.m hzk
            have fz := free_at F.v.m (1 + k)
            go_simp
            clear xz fz
            replace F := F.set (1 + k) (.int .i64 (rowV (!b) z))
            generalize V.setCell ⟨w.heap.size + 1, 1 + k, none⟩ (.int .i64 (rowV (!b) z)) = V at *
            refine hK.out _ _ ⟨range_of F.v.l, cell_list F.v.m (by rw [List.getElem?_set_ne (by omega)]; exact hMk.occ)⟩ (fun _ => ?_)
            clear hK K
            try simp only [zA, zS, zZ, Act.put, zP, zQ, zR]
            refine wpAnyH_done (by kernel_rfl) ?_ _
            go_wp2
            go_roundw
            case rel => exact ⟨k + 1, by omega, by go_num, by rw [HSE.out]; exact F⟩
            case measure => simp [intOf]; omega
        · skip
          have xz := cell_list F.v.m hzk
          go_simp
          clear xz
          refine hK.out _ _ ⟨range_of F.v.l, cell_list F.v.m hMk.occ⟩ (fun _ => ?_)
          clear hK K
          try simp only [zA, zS, zZ, Act.put, zP, zQ, zR]
          refine Node.on 2 rfl (fun K hK => ?_)
          refine wp_load_mid 35 (.tmp 3) (by rfl) (w.heap.size + 1) 0 (by rfl) N _ (range_of F.v.m) Tryz.underlying35 rfl szN ?_
          refine hK.out _ _ ⟨range_of F.v.l, cell_list F.v.m hMk.occ⟩ (fun _ => ?_)
          clear hK K
          try simp only [zA, zS, zZ, Act.put, zP, zQ, zR]
          refine Node.on 3 rfl (fun K hK => ?_)
          refine Node.wp_fn 84 [.tmp 11, .tmp 12] _ [.agg L.toArray, .agg N.toArray] (by rfl) (by rfl) (enters Tryz.func84 (by kernel_rfl) rfl) (refStale_c L N age st false V HS.out hst hMk.age) ?_
          rintro e V' ⟨rfl, bF⟩
          refine ⟨_, rfl, ?_⟩
          replace F := F.later bF
          clear bF
          generalize V' = V at *
          refine hK.out _ _ ⟨range_of F.v.l, cell_list F.v.m hMk.occ⟩ (fun hHeld => ?_)
          clear hK K
          try simp only [zA, zS, zZ, Act.put, zP, zQ, zR]
          refine Node.tk 4 ?_ rfl ?_ ?_
          rotate_left
          · intro w hSw; (try dsimp only at hSw); go_simp; try with_reducible rfl
          simp only [zA, zS, zZ, Act.put, zP, zQ, zR]
          refine Node.tk 5 ?_ rfl ?_ ?_
          rotate_left
          · intro w hSw; (try dsimp only at hSw); go_simp; try with_reducible rfl
          simp only [zA, zS, zZ, Act.put, zP, zQ, zR]
          refine Node.tk 6 ?_ rfl ?_ ?_
          rotate_left
          · intro w hSw; (try dsimp only at hSw); go_simp; try with_reducible rfl
          simp only [zA, zS, zZ, Act.put, zP, zQ, zR]
          refine Node.tk 7 ?_ rfl ?_ ?_
          rotate_left
          · intro w hSw; (try dsimp only at hSw); go_simp; try with_reducible rfl
          simp only [zA, zS, zZ, Act.put, zP, zQ, zR]
          refine Node.tk 8 ?_ rfl ?_ ?_
          rotate_left
          · intro w hSw; (try dsimp only at hSw); go_simp; try with_reducible rfl
          simp only [zA, zS, zZ, Act.put, zP, zQ, zR]
          refine Node.tk 9 ?_ rfl ?_ ?_
          rotate_left
          · intro w hSw; (try dsimp only at hSw); go_simp; try with_reducible rfl
          simp only [zA, zS, zZ, Act.put, zP, zQ, zR]
          clear hHeld
          refine Node.on 10 rfl (fun K hK => ?_)
          refine Node.wp_fn 85 [.tmp 18, .tmp 19] _ [.int .u32 occ.toNat, .int .i64 k] (by rfl) (by rfl) (enters Tryz.func85 (by kernel_rfl) rfl) (refbit_c occ k b V HB.out) ?_
          rintro e V' ⟨rfl, rfl⟩
          refine ⟨_, rfl, ?_⟩
          generalize V' = V at *
          refine hK.out _ _ ⟨range_of F.v.l, cell_list F.v.m hMk.occ⟩ (fun hHeld => ?_)
          clear hK K
          try simp only [zA, zS, zZ, Act.put, zP, zQ, zR]
          refine Node.tk 11 ?_ rfl ?_ ?_
          rotate_left
          · intro w hSw; (try dsimp only at hSw); go_simp; try with_reducible rfl
          simp only [zA, zS, zZ, Act.put, zP, zQ, zR]
          refine Node.tk 12 ?_ rfl ?_ ?_
          rotate_left
          · intro w hSw; (try dsimp only at hSw); go_simp; try with_reducible rfl
          simp only [zA, zS, zZ, Act.put, zP, zQ, zR]
          clear hHeld
          refine Node.on 17 rfl (fun K hK => ?_)
          refine Node.wp_fn 117 [.tmp 22, .tmp 26] _ [.bool (!b), .int .i64 z] (by rfl) (by rfl) (enters Tryz.func117 (by kernel_rfl) rfl) (r3Row_c (!b) z V) ?_
          rintro e V' ⟨rfl, rfl⟩
          refine ⟨_, rfl, ?_⟩
          generalize V' = V at *
          refine hK.out _ _ ⟨range_of F.v.l, cell_list F.v.m hMk.occ⟩ (fun hHeld => ?_)
          clear hK K
          try simp only [zA, zS, zZ, Act.put, zP, zQ, zR]
          refine Node.tk 19 ?_ rfl ?_ ?_
          rotate_left
          · intro w hSw; (try dsimp only at hSw); go_simp; try with_reducible rfl
          simp only [zA, zS, zZ, Act.put, zP, zQ, zR]
          clear hHeld
          refine Node.on 20 rfl (fun K hK => ?_)
          have xz := cell_list F.v.m hzk
          have fz := free_at F.v.m (1 + k)
          go_simp
          clear xz fz
          replace F := F.set (1 + k) (.int .i64 (rowV (!b) z))
          generalize V.setCell ⟨w.heap.size + 1, 1 + k, none⟩ (.int .i64 (rowV (!b) z)) = V at *
          refine hK.out _ _ ⟨range_of F.v.l, cell_list F.v.m (by rw [List.getElem?_set_ne (by omega)]; exact hMk.occ)⟩ (fun _ => ?_)
          clear hK K
          try simp only [zA, zS, zZ, Act.put, zP, zQ, zR]
          refine wpAnyH_done (by kernel_rfl) ?_ _
          go_wp2
          go_roundw
          case rel => exact ⟨k + 1, by omega, by go_num, by rw [HSE.out]; exact F⟩
          case measure => simp [intOf]; omega
      · skip
        refine wpAnyH_ready (rs := [2, 16]) (by kernel_rfl) (by simp) ?_
        refine AllReadyH.cons rfl (fun K hK => ?_) (AllReadyH.cons rfl (fun K hK => ?_) AllReadyH.nil)
        · skip
          refine wp_load_mid 35 (.tmp 3) (by rfl) (w.heap.size + 1) 0 (by rfl) N _ (range_of F.v.m) Tryz.underlying35 rfl szN ?_
          refine hK.out _ _ ⟨range_of F.v.l, cell_list F.v.m hMk.occ⟩ (fun _ => ?_)
          clear hK K
          try simp only [zA, zS, zZ, Act.put, zP, zQ, zR]
          refine wpAnyH_ready (rs := [3, 16]) (by kernel_rfl) (by simp) ?_
          refine AllReadyH.cons rfl (fun K hK => ?_) (AllReadyH.cons rfl (fun K hK => ?_) AllReadyH.nil)
          · skip
            refine Node.wp_fn 84 [.tmp 11, .tmp 12] _ [.agg L.toArray, .agg N.toArray] (by rfl) (by rfl) (enters Tryz.func84 (by kernel_rfl) rfl) (refStale_c L N age st true V HS.out hst hMk.age) ?_
            rintro e V' ⟨rfl, bF⟩
            refine ⟨_, rfl, ?_⟩
            replace F := F.later bF
            clear bF
            generalize V' = V at *
            refine hK.out _ _ ⟨range_of F.v.l, cell_list F.v.m hMk.occ⟩ (fun hHeld => ?_)
            clear hK K
            try simp only [zA, zS, zZ, Act.put, zP, zQ, zR]
            refine Node.tk 4 ?_ rfl ?_ ?_
            rotate_left
            · intro w hSw; (try dsimp only at hSw); go_simp; try with_reducible rfl
            simp only [zA, zS, zZ, Act.put, zP, zQ, zR]
            refine Node.tk 5 ?_ rfl ?_ ?_
            rotate_left
            · intro w hSw; (try dsimp only at hSw); go_simp; try with_reducible rfl
            simp only [zA, zS, zZ, Act.put, zP, zQ, zR]
            refine Node.sk 6 rfl ?_
            refine Node.sk 7 rfl ?_
            refine Node.sk 8 rfl ?_
            refine Node.sk 9 rfl ?_
            refine Node.sk 10 rfl ?_
            refine Node.sk 11 rfl ?_
            simp only [zA, zS, zZ, Act.put, zP, zQ, zR]
            refine Node.tk 12 ?_ rfl ?_ ?_
            rotate_left
            · intro w hSw; (try dsimp only at hSw); go_simp; try with_reducible rfl
            simp only [zA, zS, zZ, Act.put, zP, zQ, zR]
            clear hHeld
            refine Node.on 16 rfl (fun K hK => ?_)
            have xz := cell_list F.v.m hzk
            go_simp
            clear xz
            refine hK.out _ _ ⟨range_of F.v.l, cell_list F.v.m hMk.occ⟩ (fun _ => ?_)
            clear hK K
            try simp only [zA, zS, zZ, Act.put, zP, zQ, zR]
            refine Node.on 17 rfl (fun K hK => ?_)
            refine Node.wp_fn 117 [.tmp 22, .tmp 26] _ [.bool false, .int .i64 z] (by rfl) (by rfl) (enters Tryz.func117 (by kernel_rfl) rfl) (r3Row_c false z V) ?_
            rintro e V' ⟨rfl, rfl⟩
            refine ⟨_, rfl, ?_⟩
            generalize V' = V at *
            refine hK.out _ _ ⟨range_of F.v.l, cell_list F.v.m hMk.occ⟩ (fun hHeld => ?_)
            clear hK K
            try simp only [zA, zS, zZ, Act.put, zP, zQ, zR]
            refine Node.tk 19 ?_ rfl ?_ ?_
            rotate_left
            · intro w hSw; (try dsimp only at hSw); go_simp; try with_reducible rfl
            simp only [zA, zS, zZ, Act.put, zP, zQ, zR]
            clear hHeld
            refine Node.on 20 rfl (fun K hK => ?_)
            have xz := cell_list F.v.m hzk
            have fz := free_at F.v.m (1 + k)
            go_simp
            clear xz fz
            replace F := F.set (1 + k) (.int .i64 (rowV false z))
            generalize V.setCell ⟨w.heap.size + 1, 1 + k, none⟩ (.int .i64 (rowV false z)) = V at *
            refine hK.out _ _ ⟨range_of F.v.l, cell_list F.v.m (by rw [List.getElem?_set_ne (by omega)]; exact hMk.occ)⟩ (fun _ => ?_)
            clear hK K
            try simp only [zA, zS, zZ, Act.put, zP, zQ, zR]
            refine wpAnyH_done (by kernel_rfl) ?_ _
            go_wp2
            go_roundw
            case rel => exact ⟨k + 1, by omega, by go_num, by rw [HSE.out]; exact F⟩
            case measure => simp [intOf]; omega
          · skip
            have xz := cell_list F.v.m hzk
            go_simp
            clear xz
            refine hK.out _ _ ⟨range_of F.v.l, cell_list F.v.m hMk.occ⟩ (fun _ => ?_)
            clear hK K
            try simp only [zA, zS, zZ, Act.put, zP, zQ, zR]
            refine Node.on 3 rfl (fun K hK => ?_)
            refine Node.wp_fn 84 [.tmp 11, .tmp 12] _ [.agg L.toArray, .agg N.toArray] (by rfl) (by rfl) (enters Tryz.func84 (by kernel_rfl) rfl) (refStale_c L N age st true V HS.out hst hMk.age) ?_
            rintro e V' ⟨rfl, bF⟩
            refine ⟨_, rfl, ?_⟩
            replace F := F.later bF
            clear bF
            generalize V' = V at *
            refine hK.out _ _ ⟨range_of F.v.l, cell_list F.v.m hMk.occ⟩ (fun hHeld => ?_)
            clear hK K
            try simp only [zA, zS, zZ, Act.put, zP, zQ, zR]
            refine Node.tk 4 ?_ rfl ?_ ?_
            rotate_left
            · intro w hSw; (try dsimp only at hSw); go_simp; try with_reducible rfl
            simp only [zA, zS, zZ, Act.put, zP, zQ, zR]
            refine Node.tk 5 ?_ rfl ?_ ?_
            rotate_left
            · intro w hSw; (try dsimp only at hSw); go_simp; try with_reducible rfl
            simp only [zA, zS, zZ, Act.put, zP, zQ, zR]
            refine Node.sk 6 rfl ?_
            refine Node.sk 7 rfl ?_
            refine Node.sk 8 rfl ?_
            refine Node.sk 9 rfl ?_
            refine Node.sk 10 rfl ?_
            refine Node.sk 11 rfl ?_
            simp only [zA, zS, zZ, Act.put, zP, zQ, zR]
            refine Node.tk 12 ?_ rfl ?_ ?_
            rotate_left
            · intro w hSw; (try dsimp only at hSw); go_simp; try with_reducible rfl
            simp only [zA, zS, zZ, Act.put, zP, zQ, zR]
            clear hHeld
            refine Node.on 17 rfl (fun K hK => ?_)
            refine Node.wp_fn 117 [.tmp 22, .tmp 26] _ [.bool false, .int .i64 z] (by rfl) (by rfl) (enters Tryz.func117 (by kernel_rfl) rfl) (r3Row_c false z V) ?_
            rintro e V' ⟨rfl, rfl⟩
            refine ⟨_, rfl, ?_⟩
            generalize V' = V at *
            refine hK.out _ _ ⟨range_of F.v.l, cell_list F.v.m hMk.occ⟩ (fun hHeld => ?_)
            clear hK K
            try simp only [zA, zS, zZ, Act.put, zP, zQ, zR]
            refine Node.tk 19 ?_ rfl ?_ ?_
            rotate_left
            · intro w hSw; (try dsimp only at hSw); go_simp; try with_reducible rfl
            simp only [zA, zS, zZ, Act.put, zP, zQ, zR]
            clear hHeld
            refine Node.on 20 rfl (fun K hK => ?_)
            have xz := cell_list F.v.m hzk
            have fz := free_at F.v.m (1 + k)
            go_simp
            clear xz fz
            replace F := F.set (1 + k) (.int .i64 (rowV false z))
            generalize V.setCell ⟨w.heap.size + 1, 1 + k, none⟩ (.int .i64 (rowV false z)) = V at *
            refine hK.out _ _ ⟨range_of F.v.l, cell_list F.v.m (by rw [List.getElem?_set_ne (by omega)]; exact hMk.occ)⟩ (fun _ => ?_)
            clear hK K
            try simp only [zA, zS, zZ, Act.put, zP, zQ, zR]
            refine wpAnyH_done (by kernel_rfl) ?_ _
            go_wp2
            go_roundw
            case rel => exact ⟨k + 1, by omega, by go_num, by rw [HSE.out]; exact F⟩
            case measure => simp [intOf]; omega
        · skip
          have xz := cell_list F.v.m hzk
          go_simp
          clear xz
          refine hK.out _ _ ⟨range_of F.v.l, cell_list F.v.m hMk.occ⟩ (fun _ => ?_)
          clear hK K
          try simp only [zA, zS, zZ, Act.put, zP, zQ, zR]
          refine Node.on 2 rfl (fun K hK => ?_)
          refine wp_load_mid 35 (.tmp 3) (by rfl) (w.heap.size + 1) 0 (by rfl) N _ (range_of F.v.m) Tryz.underlying35 rfl szN ?_
          refine hK.out _ _ ⟨range_of F.v.l, cell_list F.v.m hMk.occ⟩ (fun _ => ?_)
          clear hK K
          try simp only [zA, zS, zZ, Act.put, zP, zQ, zR]
          refine Node.on 3 rfl (fun K hK => ?_)
          refine Node.wp_fn 84 [.tmp 11, .tmp 12] _ [.agg L.toArray, .agg N.toArray] (by rfl) (by rfl) (enters Tryz.func84 (by kernel_rfl) rfl) (refStale_c L N age st true V HS.out hst hMk.age) ?_
          rintro e V' ⟨rfl, bF⟩
          refine ⟨_, rfl, ?_⟩
          replace F := F.later bF
          clear bF
          generalize V' = V at *
          refine hK.out _ _ ⟨range_of F.v.l, cell_list F.v.m hMk.occ⟩ (fun hHeld => ?_)
          clear hK K
          try simp only [zA, zS, zZ, Act.put, zP, zQ, zR]
          refine Node.tk 4 ?_ rfl ?_ ?_
          rotate_left
          · intro w hSw; (try dsimp only at hSw); go_simp; try with_reducible rfl
          simp only [zA, zS, zZ, Act.put, zP, zQ, zR]
          refine Node.tk 5 ?_ rfl ?_ ?_
          rotate_left
          · intro w hSw; (try dsimp only at hSw); go_simp; try with_reducible rfl
          simp only [zA, zS, zZ, Act.put, zP, zQ, zR]
          refine Node.sk 6 rfl ?_
          refine Node.sk 7 rfl ?_
          refine Node.sk 8 rfl ?_
          refine Node.sk 9 rfl ?_
          refine Node.sk 10 rfl ?_
          refine Node.sk 11 rfl ?_
          simp only [zA, zS, zZ, Act.put, zP, zQ, zR]
          refine Node.tk 12 ?_ rfl ?_ ?_
          rotate_left
          · intro w hSw; (try dsimp only at hSw); go_simp; try with_reducible rfl
          simp only [zA, zS, zZ, Act.put, zP, zQ, zR]
          clear hHeld
          refine Node.on 17 rfl (fun K hK => ?_)
          refine Node.wp_fn 117 [.tmp 22, .tmp 26] _ [.bool false, .int .i64 z] (by rfl) (by rfl) (enters Tryz.func117 (by kernel_rfl) rfl) (r3Row_c false z V) ?_
          rintro e V' ⟨rfl, rfl⟩
          refine ⟨_, rfl, ?_⟩
          generalize V' = V at *
          refine hK.out _ _ ⟨range_of F.v.l, cell_list F.v.m hMk.occ⟩ (fun hHeld => ?_)
          clear hK K
          try simp only [zA, zS, zZ, Act.put, zP, zQ, zR]
          refine Node.tk 19 ?_ rfl ?_ ?_
          rotate_left
          · intro w hSw; (try dsimp only at hSw); go_simp; try with_reducible rfl
          simp only [zA, zS, zZ, Act.put, zP, zQ, zR]
          clear hHeld
          refine Node.on 20 rfl (fun K hK => ?_)
          have xz := cell_list F.v.m hzk
          have fz := free_at F.v.m (1 + k)
          go_simp
          clear xz fz
          replace F := F.set (1 + k) (.int .i64 (rowV false z))
          generalize V.setCell ⟨w.heap.size + 1, 1 + k, none⟩ (.int .i64 (rowV false z)) = V at *
          refine hK.out _ _ ⟨range_of F.v.l, cell_list F.v.m (by rw [List.getElem?_set_ne (by omega)]; exact hMk.occ)⟩ (fun _ => ?_)
          clear hK K
          try simp only [zA, zS, zZ, Act.put, zP, zQ, zR]
          refine wpAnyH_done (by kernel_rfl) ?_ _
          go_wp2
          go_roundw
          case rel => exact ⟨k + 1, by omega, by go_num, by rw [HSE.out]; exact F⟩
          case measure => simp [intOf]; omega
    · obtain rfl : k = 24 := by omega
      rw [show midL occ s free 24 = rowL occ s free 24 by rw [midL, List.drop_of_length_le (by rw [hM.fl]; exact Nat.le_refl _), List.append_nil]] at F
      have hMk := hM.with_ (rowL_len occ s free 24)
      obtain ⟨N, hN⟩ : ∃ N, withFree M (rowL occ s free 24) = N := ⟨_, rfl⟩
      rw [hN] at F hMk
      have HN := Lib.hid hN
      clear hN
      have szN := img_size hMk.len
      have RN := range_of F.v.m
      obtain ⟨W3, hW, X, BF, far, ths⟩ := fill_new N F.z (by rw [hMk.len]; rfl) F.bel (by omega)
      have HW := Lib.hid hW
      have oneN := all_one hMk.one
      clear hW
      go_wp2_with (first
        | refine wpList_load_g (by rfl) 35 (.tmp 3) (by rfl) (w.heap.size + 1) 0 (by rfl) N _ RN Tryz.underlying35 rfl szN ?_
        | (refine wpList_store_mid rfl 35 (.tmp 4) (.tmp 30) (by rfl) (w.heap.size + 1 + 1) 0 N.toArray (by rfl) (by rfl) ths (by simpa using szN) oneN ?_; rw [HW.out])
        | fail)
      exact bodyPost_ret (res_mid (t := 4) (M := N) Tryz.underlying35 rfl rfl szN rfl X) rfl ⟨by rw [HN.out], BF⟩
end Go.Proofs.YtppcdmbpbbjecaaGreat
namespace Go.Proofs.YtppcdmbpbbjecaaGreat
open List renaming getElem_toArray → zA, getElem_cons_succ → zS, getElem_cons_zero → zZ, setIfInBounds_toArray → zP, set_cons_zero → zQ, set_cons_succ → zR
open Go.RowKit Rf Mem Bv AM
attribute [local go_sem ↓] run_max2 run_min2
theorem range_set {W : World} {g : Nat} {M : List Value} {cs : Array Value} {t : TypeId} {f : Nat × Nat} (h : W.heap[g]? = some (.cells cs t f)) (e : cs = M.toArray) : W.rangeAt g 0 M := range_of (e ▸ h)
def newI : List Value := [.int .i64 65535, .int .i64 0, .int .i64 0, .int .i64 0, .int .i64 0, .int .i64 0, .int .i64 0, .int .i64 0, .int .i64 0, .int .i64 0, .int .i64 0, .int .i64 0, .int .i64 0, .int .i64 0, .int .i64 0, .int .i64 0, .int .i64 0, .int .i64 0, .int .i64 0, .int .i64 0, .int .i64 0, .int .i64 0, .int .i64 0, .int .i64 0, .int .i64 0, .int .u32 0, .int .u32 0, .int .u32 0, .int .u32 0]
theorem newI_f : ImgF newI 65535 (List.replicate 24 0) 0#32 0#32 0#32 0#32 := by
  refine ⟨rfl, by simp, rfl, fun k z hk => ?_, rfl, rfl, rfl, rfl⟩
  have hlt : k < 24 := by have := (List.getElem?_eq_some_iff.1 hk).1; simpa using this
  have hz : z = 0 := by
    have := List.mem_of_getElem? hk
    simp at this; exact this
  subst hz
  have : ∀ k, k < 24 → newI[1 + k]? = some (.int .i64 0) := by
    intro k hk
    rw [show newI = .int .i64 65535 :: (List.replicate 24 (.int .i64 0) ++ List.replicate 4 (.int .u32 0)) from rfl, Nat.add_comm, List.getElem?_cons_succ, List.getElem?_append_left (by simpa using hk), List.getElem?_replicate, if_pos hk]
  exact this k hlt
set_option maxHeartbeats 2000000 in
set_option maxRecDepth 100000 in
theorem refTake_c (L M : List Value) (ns nsig : Nat) (clr st age : Int) (A A1 : Option Addr) (c c1 : Nat) (free : List Int) (occ nor rev lam o n r l : BitVec 32) (w : World) (hL : LayF L ns nsig clr st A c A1 c1) (hM : ImgF M age free occ nor rev lam) :
    Calls Tryz.prog 69 #[.agg L.toArray, .agg M.toArray, .agg (inV o n r l)] w fun e w' => Below w.heap.size w w' ∧ e = .returned (.agg (withFree (withIn M o n r l) (rowL o (decide (st < 0)) free 24)).toArray) := by
  have T := Two.new w L M
  have bi := below_new ((w.alloc (.cells L.toArray 29)).alloc (.cells M.toArray 35)) (.cells (inV o n r l) 33)
  have bz := below_new (((w.alloc (.cells L.toArray 29)).alloc (.cells M.toArray 35)).alloc (.cells (inV o n r l) 33)) (.cells #[.int .i64 0, .int .i64 0, .int .i64 0, .int .i64 0, .int .i64 0, .int .i64 0, .int .i64 0, .int .i64 0, .int .i64 0, .int .i64 0, .int .i64 0, .int .i64 0, .int .i64 0, .int .i64 0, .int .i64 0, .int .i64 0, .int .i64 0, .int .i64 0, .int .i64 0, .int .i64 0, .int .i64 0, .int .i64 0, .int .i64 0, .int .i64 0, .int .i64 0, .int .u32 0, .int .u32 0, .int .u32 0, .int .u32 0] 35)
  have T := T.later (below_step bi bz)
  have GI : ((((w.alloc (.cells L.toArray 29)).alloc (.cells M.toArray 35)).alloc (.cells (inV o n r l) 33)).alloc (.cells #[.int .i64 0, .int .i64 0, .int .i64 0, .int .i64 0, .int .i64 0, .int .i64 0, .int .i64 0, .int .i64 0, .int .i64 0, .int .i64 0, .int .i64 0, .int .i64 0, .int .i64 0, .int .i64 0, .int .i64 0, .int .i64 0, .int .i64 0, .int .i64 0, .int .i64 0, .int .i64 0, .int .i64 0, .int .i64 0, .int .i64 0, .int .i64 0, .int .i64 0, .int .u32 0, .int .u32 0, .int .u32 0, .int .u32 0] 35)).heap[w.heap.size + 1 + 1]? = some (.cells (inV o n r l) 33 (0, 0)) := old_at (new_at (by simp) _) _
  have G4 : ((((w.alloc (.cells L.toArray 29)).alloc (.cells M.toArray 35)).alloc (.cells (inV o n r l) 33)).alloc (.cells #[.int .i64 0, .int .i64 0, .int .i64 0, .int .i64 0, .int .i64 0, .int .i64 0, .int .i64 0, .int .i64 0, .int .i64 0, .int .i64 0, .int .i64 0, .int .i64 0, .int .i64 0, .int .i64 0, .int .i64 0, .int .i64 0, .int .i64 0, .int .i64 0, .int .i64 0, .int .i64 0, .int .i64 0, .int .i64 0, .int .i64 0, .int .i64 0, .int .i64 0, .int .u32 0, .int .u32 0, .int .u32 0, .int .u32 0] 35)).heap[w.heap.size + 1 + 1 + 1]? = some (.cells #[.int .i64 0, .int .i64 0, .int .i64 0, .int .i64 0, .int .i64 0, .int .i64 0, .int .i64 0, .int .i64 0, .int .i64 0, .int .i64 0, .int .i64 0, .int .i64 0, .int .i64 0, .int .i64 0, .int .i64 0, .int .i64 0, .int .i64 0, .int .i64 0, .int .i64 0, .int .i64 0, .int .i64 0, .int .i64 0, .int .i64 0, .int .i64 0, .int .i64 0, .int .u32 0, .int .u32 0, .int .u32 0, .int .u32 0] 35 (0, 0)) := new_at (by simp) _
  have szL := lay_size hL.len
  have hM2 := hM.withIn_ o n r l
  obtain ⟨M', hM'⟩ : ∃ M', withFree (withIn M o n r l) (rowL o (decide (st < 0)) free 24) = M' := ⟨_, rfl⟩
  rw [hM']
  have HM := Lib.hid hM'.symm
  have hMf := hM2.with_ (f := rowL o (decide (st < 0)) free 24) (rowL_len _ _ _ _)
  rw [hM'] at hMf
  have szM2 := img_size hM2.len
  have szm : (Tryz.prog.info? 35).map (·.size) = some M'.toArray.size := by simpa using img_size hMf.len
  have oneM : M'.toArray.all (·.oneCell') = true := all_oneCell_toArray hMf.one
  clear bz bi hM'
  go_enter Tryz.func69, Tryz.ntmps69
  go_upto_region 1 with (fail)
  generalize (((w.alloc (.cells L.toArray 29)).alloc (.cells M.toArray 35)).alloc (.cells (inV o n r l) 33)).alloc (.cells #[.int .i64 0, .int .i64 0, .int .i64 0, .int .i64 0, .int .i64 0, .int .i64 0, .int .i64 0, .int .i64 0, .int .i64 0, .int .i64 0, .int .i64 0, .int .i64 0, .int .i64 0, .int .i64 0, .int .i64 0, .int .i64 0, .int .i64 0, .int .i64 0, .int .i64 0, .int .i64 0, .int .i64 0, .int .i64 0, .int .i64 0, .int .i64 0, .int .i64 0, .int .u32 0, .int .u32 0, .int .u32 0, .int .u32 0] 35) = W0 at *
  have y0 := cell_at GI 0
  have y1 := cell_at GI 1
  have y2 := cell_at GI 2
  have y3 := cell_at GI 3
  have x0 := T.cm hM.age
  have x1 := T.cm hM.occ
  have x2 := T.cm hM.nor
  have x3 := T.cm hM.rev
  have x4 := T.cm hM.lam
  have f0 := free_at T.m 0
  have f1 := free_at T.m 25
  have f2 := free_at T.m 26
  have f3 := free_at T.m 27
  have f4 := free_at T.m 28
  have hm2 := set_at (set_at (set_at (set_at (set_at T.m 25 (.int .u32 o.toNat)) 26 (.int .u32 n.toNat)) 27 (.int .u32 r.toNat)) 28 (.int .u32 l.toNat)) 0 (.int .i64 0)
  have hl2 := set_far (p := ⟨w.heap.size + 1, 0, none⟩) (set_far (p := ⟨w.heap.size + 1, 28, none⟩) (set_far (p := ⟨w.heap.size + 1, 27, none⟩) (set_far (p := ⟨w.heap.size + 1, 26, none⟩) (set_far (p := ⟨w.heap.size + 1, 25, none⟩) T.l (by simp) (.int .u32 o.toNat)) (by simp) (.int .u32 n.toNat)) (by simp) (.int .u32 r.toNat)) (by simp) (.int .u32 l.toNat)) (by simp) (.int .i64 0)
  have hg2 := set_far (p := ⟨w.heap.size + 1, 0, none⟩) (set_far (p := ⟨w.heap.size + 1, 28, none⟩) (set_far (p := ⟨w.heap.size + 1, 27, none⟩) (set_far (p := ⟨w.heap.size + 1, 26, none⟩) (set_far (p := ⟨w.heap.size + 1, 25, none⟩) G4 (by simp; omega) (.int .u32 o.toNat)) (by simp; omega) (.int .u32 n.toNat)) (by simp; omega) (.int .u32 r.toNat)) (by simp; omega) (.int .u32 l.toNat)) (by simp; omega) (.int .i64 0)
  have hb2 := ((((T.below.setCell (p := ⟨w.heap.size + 1, 25, none⟩) (by simp) (.int .u32 o.toNat)).setCell (p := ⟨w.heap.size + 1, 26, none⟩) (by simp) (.int .u32 n.toNat)).setCell (p := ⟨w.heap.size + 1, 27, none⟩) (by simp) (.int .u32 r.toNat)).setCell (p := ⟨w.heap.size + 1, 28, none⟩) (by simp) (.int .u32 l.toNat)).setCell (p := ⟨w.heap.size + 1, 0, none⟩) (by simp) (.int .i64 0)
  clear T G4 GI
  have RL := range_of hl2
  have RM := range_set (M := withIn M o n r l) hm2 (by simp [withIn])
  clear hm2 hl2
  go_upto_region 3 with (fail)
  clear x0 x1 x2 x3 x4 f0 f1 f2 f3 f4 y0 y1 y2 y3
  generalize ((((W0.setCell ⟨w.heap.size + 1, 25, none⟩ (.int .u32 o.toNat)).setCell ⟨w.heap.size + 1, 26, none⟩ (.int .u32 n.toNat)).setCell ⟨w.heap.size + 1, 27, none⟩ (.int .u32 r.toNat)).setCell ⟨w.heap.size + 1, 28, none⟩ (.int .u32 l.toNat)).setCell ⟨w.heap.size + 1, 0, none⟩ (.int .i64 0) = W5 at *
  go_wp2_with (first
      | refine wpList_load_g (by rfl) 29 (.tmp 3) (by rfl) w.heap.size 0 (by rfl) L _ RL Tryz.underlying29 rfl szL ?_
      | refine wpList_load_g (by rfl) 35 (.tmp 4) (by rfl) (w.heap.size + 1) 0 (by rfl) (withIn M o n r l) _ RM Tryz.underlying35 rfl szM2 ?_)
  refine (refrows_c L (withIn M o n r l) ns nsig clr st 0 A A1 c c1 free o n r l _ _ rfl hL hM2).mono ?_
  rw [← HM.out]
  rintro e W3' ⟨rfl, b3⟩
  have G5 := below_at b3 hg2 (Array.getElem?_eq_some_iff.1 hg2).1
  have k2 : W3'.there (w.heap.size + 1 + 1 + 1) 0 M'.toArray.size := there_of G5 0 _ (by simp [hMf.len])
  have k3 : (W3'.setCells (w.heap.size + 1 + 1 + 1) 0 M'.toArray.toList).heap[w.heap.size + 1 + 1 + 1]? = some (.cells M'.toArray 35 (0, 0)) := by rw [setCells_at _ _ G5, setL_all (by simp [hMf.len])]
  have k4 : Below w.heap.size w (W3'.setCells (w.heap.size + 1 + 1 + 1) 0 M'.toArray.toList) := below_setCells (by omega) _ _ (below_step hb2 b3)
  have K34 := Lib.hid (And.intro k3 k4)
  clear k3 k4 G5 hg2 RL RM
  go_wp2_with (first
      | (refine wpList_store_mid rfl 35 (.tmp 6) (.tmp 12) (by rfl) (w.heap.size + 1 + 1 + 1) 0 M'.toArray (by rfl) (by rfl) k2 szm oneM ?_; generalize hWs : W3'.setCells (w.heap.size + 1 + 1 + 1) 0 M'.toArray.toList = Ws at *))
  exact bodyPost_ret (res_mid (t := 6) (M := M') Tryz.underlying35 rfl rfl (img_size hMf.len) rfl K34.out.1) rfl ⟨K34.out.2, rfl⟩
theorem run_newI (W : World) : (Instr.build 35 #[(0, .int .i64 65535)]).run Tryz.prog W = .ok (.agg newI.toArray) W := by
  go_simp
  rfl
set_option maxRecDepth 100000 in
theorem refNew_c (w : World) : Calls Tryz.prog 70 #[] w fun e w' => Below w.heap.size w w' ∧ e = .returned (.agg newI.toArray) := by
  have b0 := below_new w (.cells zImg 35)
  have g0 := new_at (w := w) rfl (.cells zImg 35)
  have hs := newI_f
  have szI : (Tryz.prog.info? 35).map (·.size) = some newI.length := img_size hs.len
  have oneM := all_one hs.one
  obtain ⟨W3, hW, X, BF, far, ths⟩ := fill_new newI g0 rfl b0 (Nat.le_refl _)
  have HW := Lib.hid hW
  clear hW
  go_enter Tryz.func70, Tryz.ntmps70
  go_upto_region 1 with (fail)
  generalize w.alloc (.cells zImg 35) = W0 at *
  go_wp2_with (first
    | (refine wpList_store_mid rfl 35 (.tmp 0) (.tmp 1) (by rfl) w.heap.size 0 newI.toArray (by rfl) (by rfl) ths (by simpa using szI) oneM ?_; rw [HW.out])
    | fail)
  exact bodyPost_ret (res_mid (t := 0) (M := newI) Tryz.underlying35 rfl rfl szI rfl X) rfl ⟨BF, rfl⟩
end Go.Proofs.YtppcdmbpbbjecaaGreat
namespace Go.Proofs.YtppcdmbpbbjecaaGreat
open List renaming getElem_toArray → zA, getElem_cons_succ → zS, getElem_cons_zero → zZ, setIfInBounds_toArray → zP, set_cons_zero → zQ, set_cons_succ → zR
open Go.RowKit Rf Mem Bv AM
attribute [local go_sem ↓] run_max2 run_min2
attribute [local go_sem] Oper.semAt_some
/-- what the iterator over one route reads -/
structure K1 (w : World) (gk gl gm g c : Nat) (I : IM) (K L M cs : List Value) (q : HeldM) : Prop where
  k : w.heap[gk]? = some (.cells K.toArray 41 (0, 0))
  h : K[1]? = some (.slice (some ⟨g, 0, none⟩) 1 c)
  v : V2 w gl gm L M
  a : IMA I L M w
  b : Blk w g cs
  q : HeldAt w cs q
theorem K1.later {w w' : World} {gk gl gm g c : Nat} {I : IM} {K L M cs : List Value} {q : HeldM} (h : K1 w gk gl gm g c I K L M cs q) (b : Below w.heap.size w w') : K1 w' gk gl gm g c I K L M cs q :=
  ⟨var_later h.k b, h.h, h.v.later b, h.a.later b, h.b.later b, h.q.later b⟩
set_option maxHeartbeats 2000000 in
set_option maxRecDepth 100000 in
theorem clear1s (w : World) (I : IM) (K L M cs : List Value) (q : HeldM) (gk gl gm g c : Nat) (h0 : K1 w gk gl gm g c I K L M cs q) (hcl : true = clearB I.stand I.occB I.litB q) (s1 : q.needs.length ≤ 5864062014700) (s2 : q.steps.length ≤ 5864062014700) (s3 : q.over.length ≤ 5864062014700) :
    Iter Tryz.prog 107 #[.pointer (some ⟨gk, 0, none⟩), .pointer (some ⟨gl, 0, none⟩), .pointer (some ⟨gm, 0, none⟩)] (fun _ => False) (fun _ => False) [#[.int .i64 0, .agg cs.toArray]] (fun W => Below w.heap.size w W) := by
  intro lp J O0 W0 hPre hO hJ hY hj0
  have szL := lay_size h0.a.f.l.len
  have szM := img_size h0.a.f.m.len
  have HY := Lib.hid hY
  have HJK := Lib.hid hJ
  have H0 := Lib.hid h0
  have F0 := h0.later hPre
  have x0 := cell_list F0.k F0.h
  have HCL := Lib.hid hcl
  clear hY hO hJ h0 hcl
  refine callsIn_of_wp Tryz.func107 rfl trivial ?_ rfl
  simp only [Tryz.ntmps107, List.size_toArray, List.length_cons, List.length_nil, Nat.reduceAdd, Nat.reduceSub, Array.replicate_succ, Array.replicate_zero, List.push_toArray, List.append_toArray, List.nil_append, List.cons_append]
  gi_wp2
  gi_loopw [10] (fun i wr => ∃ (k : Nat) (O : Nat → Prop), k ≤ 1 ∧ i = .int .i64 k ∧ Hid (J k O wr) ∧ (k = 0 → Below w.heap.size w wr) ∧ W0.heap.size ≤ wr.heap.size) (fun i _ => 1 - (intOf i).toNat)
  case atStart => exact ⟨0, O0, by omega, rfl, Lib.hid hj0, fun _ => hPre, Nat.le_refl _⟩
  case round =>
    obtain ⟨k, O, hk, rfl, HJ, hB, hsz⟩ := hrel
    clear x0 hPre F0
    by_cases hlt : k < 1
    · have hk0 : k = 0 := by omega
      have F := H0.out.later (hB hk0)
      have hr := F.b.rng
      have szS := held_size F.q.len
      obtain ⟨Ws, hWs, k3, k4, k2⟩ := newv (V := wr) cs zHeld 75 (by rw [F.q.len]; rfl)
      have szm : (Tryz.prog.info? 75).map (·.size) = some cs.toArray.size := by simpa using szS
      have oneS : cs.toArray.all (·.oneCell') = true := all_one F.q.one
      have F2 := F.later k4
      have hk1 : Keep (fun q => q < wr.heap.size) wr Ws := Keep.of_below k4 (fun _ h _ => h)
      have hsz2 : W0.heap.size ≤ Ws.heap.size := Nat.le_trans hsz k4.size
      have HJ2 := Lib.hid (HJK.out _ _ _ _ HJ.out (hk1.mono (fun q hq _ => hq)))
      have i1 : (k : Int) < 1 := by omega
      have RS := range_of k3
      have RL := range_of F2.v.l
      have RM := range_of F2.v.m
      have HWS := Lib.hid hWs
      have HB := Lib.hid hB
      clear hWs k4 hB
      gi_wp2_with (first
        | refine wpListIn_load_g rfl 75 (.tmp 13) (by rfl) g 0 (by rfl) cs _ hr Tryz.underlying75 rfl szS ?_
        | (refine wpListIn_store_g rfl 75 (.tmp 6) (.tmp 14) (by rfl) wr.heap.size 0 cs.toArray (by rfl) (by rfl) k2 szm oneS ?_; rw [HWS.out])
        | refine wpListIn_load_g rfl 29 (.tmp 2) (by rfl) gl 0 (by rfl) L _ RL Tryz.underlying29 rfl szL ?_
        | refine wpListIn_load_g rfl 35 (.tmp 3) (by rfl) gm 0 (by rfl) M _ RM Tryz.underlying35 rfl szM ?_
        | refine wpListIn_load_g rfl 75 (.tmp 6) (by rfl) wr.heap.size 0 (by rfl) cs _ RS Tryz.underlying75 rfl szS ?_)
      refine ⟨trivial, rfl, (callsIn_wide.2 (Clear_c I L M cs q true _ HCL.out F2.a F2.q s1 s2 s3)).mono ?_⟩
      rintro e W3 ⟨rfl, b3⟩
      have hk3 : Keep (fun q => q < Ws.heap.size) Ws W3 := Keep.of_below b3 (fun _ h _ => h)
      have hsz3 : W0.heap.size ≤ W3.heap.size := Nat.le_trans hsz2 b3.size
      have hJ3 := HJK.out _ _ _ _ HJ2.out (hk3.mono (fun q hq _ => hq))
      have RS3 := range_of (var_later k3 b3)
      have hyl := HY.out 0 _ O W3 rfl (hk0 ▸ hJ3) hsz3
      have HK0 := Lib.hid hk0
      clear RS RL RM hr k2 szm oneS k3 b3 hJ3 F F2
      obtain ⟨fn, tmps, assign, body, hy, hR⟩ := hyl
      gi_wp2_with (first
        | refine wpListIn_load_w (by rfl) 75 (.tmp 6) (by rfl) wr.heap.size 0 (by rfl) cs _ RS3 Tryz.underlying75 rfl szS ?_)
      refine ⟨rfl, hR.mono ?_⟩
      rintro e W' ⟨rfl, O', hJ', ho', hk'⟩
      have hs' := hk'.size
      clear hy hR RS3
      gi_wp2
      go_roundw
      case rel => exact ⟨1, O', by omega, by simp, Lib.hid hJ', fun h => by omega, by omega⟩
      case measure => simp [intOf]; omega
    · obtain rfl : k = 1 := by omega
      gi_wp2
      go_end0
      exact ⟨⟨_, rfl⟩, O, HJ.out⟩
theorem bodyPostM_mid {T : TypeId} {d : TypeDesc} (hu : Tryz.prog.underlying T = some d) (hd : d.isRow = true) {fn : Func} {R : Ending → World → Prop} {t : Tmp} (hf : fn.results = #[.cell t T]) {tmps : Array Value} {D g : Nat} {W : World} {M : List Value} {u : TypeId} {f : Nat × Nat} (hi : (Tryz.prog.info? T).map (·.size) = some M.length)
    (hD : W.heap[D]? = some (.deferred (some []))) (hs : tmps.getD t undef = .pointer (some ⟨g, 0, none⟩)) (hg : W.heap[g]? = some (.cells M.toArray u f)) (h : R (.returned (.agg M.toArray)) (W.putObj D (.deferred none))) :
    bodyPostM Fence.wide 0 Tryz.prog fn R .ret { tmps := tmps, defers := [{ target := .collected D, args := #[] }] } W := by
  have n1 : g ≠ D := by rintro rfl; rw [hD] at hg; cases hg
  refine ⟨by simp, .inl ⟨_, _, rfl, run_takeDeferred hD, ?_⟩⟩
  exact ⟨_, res_mid hu hd hf hi hs ((World.putObj_heap_other n1).trans hg), h⟩
/-- what Show's loop holds -/
structure SH (w W : World) (K' : List Value) (zk : Array Value) (g i : Nat) : Prop where
  bel : Below w.heap.size w W
  k : W.heap[w.heap.size + 1 + 1]? = some (.cells K'.toArray 41 (0, 0))
  z : W.heap[w.heap.size + 1 + 1 + 1]? = some (.cells zk 41 (0, 0))
  b : ∃ cur, W.heap[g]? = some (.cells cur 75 (0, 0)) ∧ 23 ≤ cur.size
  t : i = 1 → W.cell? ⟨g, 22, none⟩ = some (.bool true)
theorem SH.keep {w W W' : World} {K' : List Value} {zk : Array Value} {g i : Nat} {S : Nat → Prop} (h : SH w W K' zk g i) (hk : Keep S W W') (hS : ∀ q, q < w.heap.size + 4 ∨ q = g → S q) : SH w W' K' zk g i := by
  obtain ⟨cur, hc, hz⟩ := h.b
  exact ⟨below_keep h.bel hk (Nat.le_refl _) (fun q hq => hS q (.inl (by omega))), hk.at_ h.k (hS _ (.inl (by omega))), hk.at_ h.z (hS _ (.inl (by omega))), ⟨cur, hk.at_ hc (hS _ (.inr rfl)), hz⟩,
    fun hi => (World.cell?_of_block (a := ⟨g, 22, none⟩) (hk.block g (lt_at hc) (hS _ (.inr rfl)))).trans (h.t hi)⟩
end Go.Proofs.YtppcdmbpbbjecaaGreat
namespace Go.Proofs.YtppcdmbpbbjecaaGreat
open List renaming getElem_toArray → zA, getElem_cons_succ → zS, getElem_cons_zero → zZ, setIfInBounds_toArray → zP, set_cons_zero → zQ, set_cons_succ → zR
open Go.RowKit Rf Mem Bv AM
attribute [local go_sem ↓] run_max2 run_min2
abbrev sec2 : Array Value := #[.int .u8 1, .int .i64 (-1), .int .i64 0, .int .i64 1, .int .i64 0, .int .i64 (-1), .int .i64 0, .int .i64 (-1), .int .i64 0, .int .i64 0, .int .i64 0, .int .u8 2, .int .i64 0, .int .i64 1, .int .i64 (-1), .int .i64 0, .int .i64 (-1), .int .i64 0, .int .i64 (-1), .int .i64 0, .int .i64 0, .int .i64 0]
abbrev zLay : Array Value := #[.slice none 0 0, .slice none 0 0, .slice none 0 0, .slice none 0 0, .int .i64 0, .int .i64 0, .int .i64 0, .int .i64 0, .int .i64 0, .int .i64 0, .int .i64 0]
abbrev layV (a b c : Value) : Array Value := #[a, b, c, .slice none 0 0, .int .i64 1, .int .i64 1, .int .i64 9, .int .i64 1, .int .i64 1, .int .i64 1, .int .i64 1]
abbrev st2 : List T3 := [(0, 0, 1), (1, 0, 1)]
abbrev nd1 : List T3 := [(1, 0, 1)]
/-- what two holds -/
structure TW (w W : World) (a b c : Value) : Prop where
  bel : Below w.heap.size w W
  z0 : W.heap[w.heap.size]? = some (.cells zLay 29 (0, 0))
  z1 : W.heap[w.heap.size + 1]? = some (.cells zImg 35 (0, 0))
  z2 : W.heap[w.heap.size + 1 + 1]? = some (.cells zHeld 75 (0, 0))
  n : W.heap[w.heap.size + 1 + 1 + 1]? = some (.cells #[.int .i64 (-1), .int .i64 0] 66 (0, 0))
  l : W.heap[w.heap.size + 1 + 1 + 1 + 1]? = some (.cells (layV a b c) 29 (0, 0))
theorem TW.later {w W W' : World} {a b c : Value} (h : TW w W a b c) (h' : Below W.heap.size W W') : TW w W' a b c :=
  ⟨below_step h.bel h', var_later h.z0 h', var_later h.z1 h', var_later h.z2 h', var_later h.n h', var_later h.l h'⟩
theorem TW.set {w W : World} {a b c : Value} (h : TW w W a b c) (i : Nat) (u a' b' c' : Value) (e : (layV a b c).setIfInBounds i u = layV a' b' c') : TW w (W.setCell ⟨w.heap.size + 1 + 1 + 1 + 1, i, none⟩ u) a' b' c' :=
  ⟨below_set h.bel (by omega) i u, set_far h.z0 (by simp; try omega) u, set_far h.z1 (by simp; try omega) u, set_far h.z2 (by simp; try omega) u, set_far h.n (by simp) u, e ▸ set_at h.l i u⟩
theorem wpList_bld {P : Program} {w : World} {ops : Array Oper} {rest : List Oper} {o : Oper} {a : Act} {Q : Exit → Act → World → Prop} (hgd : o.guard = none) (T : TypeId) (ps : List (Nat × Operand)) (vs : List (Nat × Value)) (cs : Value) (ho : o.op = .build T ps.toArray) (hp : ps.map (fun p => (p.1, a.eval p.2)) = vs)
    (hr : (Instr.build T vs.toArray).run P w = .ok cs w) (h : wpList P ops Q rest (a.put o.dst cs) w) : wpList P ops Q (o :: rest) a w :=
  wpList_plain hgd fun _ hK => Node.wp_val cs (by subst hp; unfold execOp; simp [ho, hr]) (hK _ _ h)
set_option maxRecDepth 100000 in
theorem run_hc (W : World) (A3 A5 : Option Addr) (n3 n5 c3 c5 : Nat) : (Instr.build 75 #[(0, .int .i64 1), (1, .agg #[.int .i64 0, .int .i64 0, .slice A3 n3 c3]), (3, .slice A5 n5 c5), (4, .int .u8 2)]).run Tryz.prog W = .ok (.agg (hcL 2 (.slice A3 n3 c3) (.slice none 0 0) (.slice A5 n5 c5) false).toArray) W := by
  go_simp
theorem tat_of {W : World} {g : Nat} {l : List T3} {E : TypeId} {f : Nat × Nat} {cs : Array Value} (h : W.heap[g]? = some (.cells cs E f)) (e : cs = (t3s l).toArray) (hl : l.length ≤ 2) : TAt W (.slice (some ⟨g, 0, none⟩) l.length l.length) l := by
  subst e
  exact ⟨some ⟨g, 0, none⟩, l.length, rfl, Nat.le_refl _, by simp only [maxLen]; omega, by unfold t3s; exact flatMap_len (sz := 3) (fun a _ => rfl), .inr ⟨g, 0, rfl, lt_at h, fun i u hu => by rw [Nat.zero_add]; exact cell_list h hu⟩⟩
theorem res_three {fn : Func} {tmps : Array Value} {W : World} {L M H : List Value} {g1 g2 g3 : Nat} {t1 t2 t3 : Tmp} {f1 f2 f3 : Nat × Nat} {u1 u2 u3 : TypeId} (hf : fn.results = #[.cell t1 29, .cell t2 35, .cell t3 75])
    (h1 : tmps.getD t1 undef = .pointer (some ⟨g1, 0, none⟩)) (h2 : tmps.getD t2 undef = .pointer (some ⟨g2, 0, none⟩)) (h3 : tmps.getD t3 undef = .pointer (some ⟨g3, 0, none⟩))
    (k1 : W.heap[g1]? = some (.cells L.toArray u1 f1)) (k2 : W.heap[g2]? = some (.cells M.toArray u2 f2)) (k3 : W.heap[g3]? = some (.cells H.toArray u3 f3)) (l1 : L.length = 11) (l2 : M.length = 29) (l3 : H.length = 23) :
    (results fn tmps).run Tryz.prog W = .ok (.tuple #[.agg L.toArray, .agg M.toArray, .agg H.toArray]) W := by
  have h1' : tmps[t1]?.getD undef = .pointer (some ⟨g1, 0, none⟩) := by simpa using h1
  have h2' : tmps[t2]?.getD undef = .pointer (some ⟨g2, 0, none⟩) := by simpa using h2
  have h3' : tmps[t3]?.getD undef = .pointer (some ⟨g3, 0, none⟩) := by simpa using h3
  have r1 := run_loadVar_mid (P := Tryz.prog) W g1 0 29 L _ (range_of k1) Tryz.underlying29 rfl (lay_size l1)
  have r2 := run_loadVar_mid (P := Tryz.prog) W g2 0 35 M _ (range_of k2) Tryz.underlying35 rfl (img_size l2)
  have r3 := run_loadVar_mid (P := Tryz.prog) W g3 0 75 H _ (range_of k3) Tryz.underlying75 rfl (held_size l3)
  simp [results, hf, h1', h2', h3', asAddr, r1, r2, r3]
end Go.Proofs.YtppcdmbpbbjecaaGreat
namespace Go.Proofs.YtppcdmbpbbjecaaGreat
open List renaming getElem_toArray → zA, getElem_cons_succ → zS, getElem_cons_zero → zZ, setIfInBounds_toArray → zP, set_cons_zero → zQ, set_cons_succ → zR
open Go.RowKit Rf Mem Bv AM
attribute [local go_sem ↓] run_max2 run_min2
theorem ready1 {P : Program} {md : Region.Mode} {ops : Array Oper} {Q : Exit → Act → World → Prop} {S : World → Prop} {fuel : Nat} {listed : Array Bool} {a : Act} {w : World} {i : Nat} {o : Oper} (ho : ops[i]? = some o) (hr : Region.ready md ops listed = [i]) (hw : Region.wanted o (yielded ops a.tmps) = true)
    (h : ∀ K' : Act → World → Prop, Shut (∀ a w, S w → (S w → wpAnyH P md ops Q S fuel (listed.setIfInBounds i true) a w) → K' a w) → Oper.wp P o a w K' Q) : wpAnyH P md ops Q S (fuel + 1) listed a w :=
  wpAnyH_ready hr (by simp) (AllReadyH.cons ho (fun K' hK => by rw [if_pos hw]; exact h K' hK) AllReadyH.nil)
def mV (m : Int × Int × Bool) : List Value := [.int .i64 m.1, .int .i64 m.2.1, .bool m.2.2]
abbrev ms0 : List (Int × Int × Bool) := List.replicate 24 (0, 0, false)
def machL : List Value := ms0.flatMap mV
theorem machL_len : machL.length = 72 := by decide
theorem machL_one : ∀ u ∈ machL, u.oneCell' = true := fun u hu => by
  simp only [machL, List.mem_flatMap, mV] at hu
  obtain ⟨p, _, h⟩ := hu
  simp at h
  rcases h with rfl | rfl | rfl <;> rfl
theorem mach_at (nx : Int) (v : Value) (i : Nat) (m : Int × Int × Bool) (h : ms0[i]? = some m) : (kcL nx v machL)[2 + 3 * i]? = some (.int .i64 m.1) ∧ (kcL nx v machL)[2 + 3 * i + 1]? = some (.int .i64 m.2.1) ∧ (kcL nx v machL)[2 + 3 * i + 2]? = some (.bool m.2.2) := by
  have hg : ∀ j u, j < 3 → (mV m)[j]? = some u → (kcL nx v machL)[2 + 3 * i + j]? = some u := fun j u hj hu => by
    rw [show 2 + 3 * i + j = (i * 3 + j) + 1 + 1 by omega, List.getElem?_cons_succ, List.getElem?_cons_succ, machL, flatMap_get (sz := 3) (fun a _ => rfl) i j hj, h]; exact hu
  exact ⟨by have := hg 0 _ (by omega) rfl; simpa using this, hg 1 _ (by omega) rfl, hg 2 _ (by omega) rfl⟩
theorem ker_at (W : World) (nx : Int) (v : Value) (css : List (List Value)) (hs : List HeldM) (h : HsAt W v css hs) : KerAt W (kcL nx v machL) v css hs nx ms0 :=
  ⟨by simp [machL_len], rfl, rfl, h, by simp, fun i m hm => mach_at nx v i m hm⟩
theorem ker_drop : (((Tryz.prog.info? 41).bind (·.zero)).map (·.cells.toList)) = some (kcL 0 (.slice none 0 0) machL) := by kernel_rfl
set_option maxRecDepth 100000 in
theorem run_k0 (W : World) : (Instr.build 41 #[]).run Tryz.prog W = .ok (.agg (kcL 0 (.slice none 0 0) machL).toArray) W := by
  go_simp
  rfl
set_option maxRecDepth 100000 in
theorem run_k2 (W : World) (A : Option Addr) (n c : Nat) : (Instr.build 41 #[(0, .int .i64 2), (1, .slice A n c)]).run Tryz.prog W = .ok (.agg (kcL 2 (.slice A n c) machL).toArray) W := by
  go_simp
  rfl
theorem hs_nil (W : World) : HsAt W (.slice none 0 0) [] [] := ⟨rfl, fun _ h => (by cases h), SliceAt.nil_ _ _, fun i cs h h1 => (by simp at h1)⟩
theorem hs_one {W : World} {v : Value} {cs : List Value} {q : HeldM} (h : SliceAt W 23 v 1 cs) (hq : HeldAt W cs q) : HsAt W v [cs] [q] :=
  ⟨rfl, fun x hx => by simp at hx; subst hx; exact hq.len, by simpa using h, fun i a b h1 h2 => by
    match i, h1, h2 with
    | 0, h1, h2 => cases h1; cases h2; exact hq
    | k + 1, h1, h2 => simp at h1⟩
abbrev qW (st : Int) : HeldM := ⟨1, 0, 0, st2, [], nd1, st, 0, List.replicate 12 false, false, 0, false⟩
/-- the image of two, and the bad one -/
def imW (A : Option Addr) (c : Nat) (A1 : Option Addr) (c1 : Nat) (f : Int) (nor rev : BitVec 32) : IM := ⟨[1, 2], 1, 1, 9, A, c, A1, c1, 0, List.replicate 24 f, 0#32, nor, rev, 1#32⟩
theorem fr_bad : rowL 0#32 (decide ((9 : Int) < 0)) (List.replicate 24 1) 24 = List.replicate 24 2 := by decide +kernel
section
variable (A : Option Addr) (c : Nat) (A1 : Option Addr) (c1 : Nat)
theorem w1 : provesB (imW A c A1 c1 1 2#32 0#32).stand (qW 1) = true := by
  show provesB (atV [1, 2] 2#32 0#32 (decide ((9 : Int) < 0))) (qW 1) = true; decide +kernel
theorem w2 (st : Int) (hst : (st == 2) = false) : clearB (imW A c A1 c1 1 2#32 0#32).stand (imW A c A1 c1 1 2#32 0#32).occB (imW A c A1 c1 1 2#32 0#32).litB (qW st) = false := by
  unfold clearB; rw [show (qW st).stage = st from rfl, hst]; rfl
theorem w3 : clearB (imW A c A1 c1 1 2#32 0#32).stand (imW A c A1 c1 1 2#32 0#32).occB (imW A c A1 c1 1 2#32 0#32).litB (qW 2) = true := by
  show clearB (atV [1, 2] 2#32 0#32 (decide ((9 : Int) < 0))) (fun n => occV 2 0#32 (decide ((9 : Int) < 0)) (List.replicate 24 1) 1 n) (fun n => litV 1 1#32 (decide ((9 : Int) < 0)) n) (qW 2) = true; decide +kernel
theorem w4 (st : Int) : provesB (imW A c A1 c1 2 0#32 2#32).stand (qW st) = false := by
  show provesB (atV [1, 2] 0#32 2#32 (decide ((9 : Int) < 0))) (qW 1) = false; decide +kernel
theorem w5 : clearB (imW A c A1 c1 2 0#32 2#32).stand (imW A c A1 c1 2 0#32 2#32).occB (imW A c A1 c1 2 0#32 2#32).litB (qW 2) = false := by
  unfold clearB; rw [w4 A c A1 c1 2]; simp
end
end Go.Proofs.YtppcdmbpbbjecaaGreat
