/- Frames: the document's Take and Size and Own, for the statement that tells all. -/
import Derived.Test.YtkjmbnficdilhaaFrmF
namespace Go.Proofs.Ytkjmbnficdilhaa
open Go.RowKit Rf Mem Bv Crc Str
attribute [local go_sem ↓] run_max2 run_min2
theorem wp_append_src {P : Program} {w : World} {o : Oper} {a : Act} {K : Act → World → Prop} {Q : Exit → Act → World → Prop} (s x : Operand) (t : TypeId)
    (ho : o.op = .call { callee := .builtin .append, args := #[s, x], argTypes := #[t, t] })
    (base : Nat) (e : TypeId) (i : TypeInfo) (z : Value) (size byt : Nat) (ht : P.underlying t = some (.slice e)) (hi : P.info? e = some i) (hz : i.zero = some z)
    (hsize : i.size = size) (hby : i.bytes = byt) (hzs : z.cells.size = size) (hsz : 0 < size)
    (v : Value) (n : Nat) (xs : List Value) (hs : a.eval s = v) (hown : w.ownsRow base e size v n xs) (src : Value) (m : Nat) (news : List Value) (hx : a.eval x = src) (hsrc : SliceAt w size src m news) (h1 : ∀ u ∈ news, u.oneCell' = true)
    (h63 : n + m ≤ maxLen) (hbytes : (n + m) * byt ≤ 140737488355328) (hbase : base ≤ w.heap.size)
    (h : ∀ v' w', w'.ownsRow base e size v' (n + m) (xs ++ news) → w.grownBy w' v.ownBlock → (v'.ownBlock = v.ownBlock ∨ v'.ownBlock = some w.heap.size) → K (a.put o.dst v') w') :
    o.wp P a w K Q := by
  obtain ⟨v', w', hr, h2, h3, h4⟩ := run_append_src (P := P) w base t o.type e i z size byt ht hi hz hsize hby hzs hsz v n xs hown src m news hsrc h1 h63 hbytes hbase
  unfold Oper.wp execOp
  simp only [ho, resolve, invoke, builtin, Sem.run_bind, Sem.run_pure, Result.andThen_ok, List.map_toArray, List.map_cons, List.map_nil, hs, hx, hr]
  exact h v' w' h2 h3 h4
set_option maxHeartbeats 1000000 in
set_option maxRecDepth 100000 in
theorem refTake_short (v : Value) (b : List (BitVec 8)) (w : World) (hs : SliceAt w 1 v b.length (u8s b)) (hl : b.length < 5) :
    Calls Try.prog 8 #[v] w fun e w' => Below w.heap.size w w' ∧ e = .returned (.tuple #[fv 0 0 (.slice none 0 0), .int .i64 40]) := by
  have hB := below_new w (.cells #[.int .u8 0, .int .u8 0, .slice none 0 0] 24)
  obtain ⟨A, c, rfl, _⟩ := hs.form
  have q1 : decide ((b.length : Int) < 5) = true := decide_eq_true (by omega)
  clear hs
  have g2 : (w.alloc (.cells #[.int .u8 0, .int .u8 0, .slice none 0 0] 24)).heap[w.heap.size]? = some _ := new_at rfl _
  go_enter Try.func8, Try.ntmps8
  go_wp2
  exact bodyPost_ret (res_frm2 (t := 2) (u := 3) rfl rfl g2) rfl ⟨hB, rfl⟩
set_option maxHeartbeats 1000000 in
set_option maxRecDepth 100000 in
theorem refTake_crc (v : Value) (b : List (BitVec 8)) (w : World) (hs : SliceAt w 1 v b.length (u8s b)) (hl : 5 ≤ b.length) (hl2 : b.length ≤ 140737488355320) (he : (openV b).2 ≠ 0) :
    Calls Try.prog 8 #[v] w fun e w' => Below w.heap.size w w' ∧ e = .returned (.tuple #[fv 0 0 (.slice none 0 0), .int .i64 (openV b).2]) := by
  have hB := below_new w (.cells #[.int .u8 0, .int .u8 0, .slice none 0 0] 24)
  have hs' := hs.later hB
  obtain ⟨A, c, rfl, _⟩ := hs.form
  have q1 : decide ((b.length : Int) < 5) = false := decide_eq_false (by omega)
  have hO := refOpen_c _ b _ hs' hl2
  generalize (openV b).1 = p at *
  generalize (openV b).2 = er at *
  have HO := Lib.hid hO
  have q2 : (er != 0) = true := by simpa using he
  clear hs hO
  go_enter Try.func8, Try.ntmps8
  go_wp2_with fail
  refine (HO.out).mono ?_
  rintro e w1 ⟨v1, rfl, ho1, b1⟩
  obtain ⟨A1, c1, rfl, _⟩ := (sliceAt_of_own ho1).form
  have g2 := below_at b1 (k := w.heap.size) (o := .cells #[.int .u8 0, .int .u8 0, .slice none 0 0] 24) (new_at rfl _) (by simp)
  have d0 := cell_at g2 0
  have d1 := cell_at g2 1
  have d2 := cell_at g2 2
  have e0 := free_at g2 0
  have e1 := free_at g2 1
  have e2 := free_at g2 2
  go_wp2
  refine bodyPost_ret (res_frm2 (t := 2) (u := 3) rfl rfl (set_at (set_at (set_at g2 0 _) 1 _) 2 _)) rfl ⟨?_, rfl⟩
  exact (((below_step hB b1).setCell (by simp) _).setCell (by simp) _).setCell (by simp) _
abbrev zf : Array Value := #[.int .u8 0, .int .u8 0, .slice none 0 0]
/-- behind the opening: the result's variable is empty, block g holds the opened bytes -/
structure Pre (w W : World) (g : Nat) (k s n : Int) : Prop where
  res : W.heap[w.heap.size]? = some (.cells zf 24 (0, 0))
  x0 : W.cell? ⟨g, 0, none⟩ = some (.int .u8 k)
  x1 : W.cell? ⟨g, 1, none⟩ = some (.int .u8 s)
  x2 : W.cell? ⟨g, 2, none⟩ = some (.int .u8 n)
  lt : w.heap.size < g
  below : Below w.heap.size w W
theorem Pre.later {w W W' : World} {g : Nat} {k s n : Int} (h : Pre w W g k s n) (hb : Below W.heap.size W W') : Pre w W' g k s n :=
  ⟨below_at hb h.res (Array.getElem?_eq_some_iff.1 h.res).1, (hb.cell (p := ⟨g, 0, none⟩) (lt_of_cell h.x0)).trans h.x0, (hb.cell (p := ⟨g, 1, none⟩) (lt_of_cell h.x1)).trans h.x1,
    (hb.cell (p := ⟨g, 2, none⟩) (lt_of_cell h.x2)).trans h.x2, h.lt, below_step h.below hb⟩
/-- a frame's variable gv beside a row of the call's own -/
structure Mid (w W : World) (g gv : Nat) (k s n : Int) (v : Value) (p : List (BitVec 8)) : Prop where
  pre : Pre w W g k s n
  own : W.ownsRow (w.heap.size + 1) 5 1 v p.length (u8s p)
  at_ : W.heap[gv]? = some (.cells zf 24 (0, 0))
  ne : v.ownBlock ≠ some gv
  lt : w.heap.size < gv
  gne : g ≠ gv
structure Fin' (w W : World) (g gv : Nat) (k s n : Int) (v : Value) (p : List (BitVec 8)) : Prop where
  V : FVar W gv k s v p
  res : W.heap[w.heap.size]? = some (.cells zf 24 (0, 0))
  z2 : W.cell? ⟨g, 2, none⟩ = some (.int .u8 n)
  B : Below w.heap.size w W
  ne : ∀ q, VB v p.length q → q ≠ w.heap.size
  lt : w.heap.size < gv
theorem Mid.fin {w W : World} {g gv : Nat} {k s n : Int} {v : Value} {p : List (BitVec 8)} (h : Mid w W g gv k s n v p) :
    Fin' w (((W.setCell ⟨gv, 0, none⟩ (.int .u8 k)).setCell ⟨gv, 1, none⟩ (.int .u8 s)).setCell ⟨gv, 2, none⟩ v) g gv k s n v p := by
  have hne : ∀ q, v.ownBlock = some q → q ≠ gv := fun q hq e => h.ne (e ▸ hq)
  have hk : ∀ q, v.ownBlock = some q → (((W.setCell ⟨gv, 0, none⟩ (.int .u8 k)).setCell ⟨gv, 1, none⟩ (.int .u8 s)).setCell ⟨gv, 2, none⟩ v).heap[q]? = W.heap[q]? := fun q hq =>
    ((Below.heap_setCell _ ⟨gv, 2, none⟩ _ q (hne q hq)).trans (Below.heap_setCell _ ⟨gv, 1, none⟩ _ q (hne q hq))).trans (Below.heap_setCell _ ⟨gv, 0, none⟩ _ q (hne q hq))
  refine ⟨⟨set_at (set_at (set_at h.at_ 0 _) 1 _) 2 _, sliceAt_of_own (own_later h.own hk)⟩, ?_, ?_, ?_, fun q hq e => ?_, h.lt⟩
  · exact set_far (set_far (set_far h.pre.res (by have := h.lt; simp; omega) _) (by have := h.lt; simp; omega) _) (by have := h.lt; simp; omega) _
  · exact cell_far (cell_far (cell_far h.pre.x2 h.gne _) h.gne _) h.gne _
  · exact ((h.pre.below.setCell (Nat.le_of_lt h.lt) _).setCell (Nat.le_of_lt h.lt) _).setCell (Nat.le_of_lt h.lt) _
  · have := (own_base h.own (own_vb hq.2)).1
    omega
/-- what Take answers of bytes whose sum is right -/
def FormR (k s n : BitVec 8) (p : List (BitVec 8)) (e : Ending) (w' : World) : Prop :=
  if rightF k.toNat p.length && ((n.toNat : Int) == (p.length : Int)) then ∃ A c, e = .returned (.tuple #[fv k.toNat s.toNat (.slice A p.length c), .int .i64 0]) ∧ SliceAt w' 1 (.slice A p.length c) p.length (u8s p)
      else e = .returned (.tuple #[fv 0 0 (.slice none 0 0), .int .i64 41])
theorem FormR.bad {k s n : BitVec 8} {p : List (BitVec 8)} {e : Ending} {w' : World} (h : rightF k.toNat p.length = false ∨ ((n.toNat : Int) == (p.length : Int)) = false) (he : e = .returned (.tuple #[fv 0 0 (.slice none 0 0), .int .i64 41])) : FormR k s n p e w' := by
  unfold FormR
  have : (rightF k.toNat p.length && ((n.toNat : Int) == (p.length : Int))) = false := by rcases h with h | h <;> rw [h] <;> simp
  rw [this]; exact he
theorem FormR.fine {k s n : BitVec 8} {p : List (BitVec 8)} {e : Ending} {w' : World} {A : Option Addr} {c : Nat} (h : rightF k.toNat p.length = true) (h2 : ((n.toNat : Int) == (p.length : Int)) = true)
    (he : e = .returned (.tuple #[fv k.toNat s.toNat (.slice A p.length c), .int .i64 0])) (hs : SliceAt w' 1 (.slice A p.length c) p.length (u8s p)) : FormR k s n p e w' := by
  unfold FormR
  rw [h, h2]; exact ⟨A, c, he, hs⟩
set_option maxHeartbeats 4000000 in
set_option maxRecDepth 100000 in
theorem refTake_form (v : Value) (b : List (BitVec 8)) (k s n : BitVec 8) (p : List (BitVec 8)) (w : World) (hs : SliceAt w 1 v b.length (u8s b)) (hl : 5 ≤ b.length) (hl2 : b.length ≤ 140737488355320) (he : openV b = (k :: s :: n :: p, 0)) :
    Calls Try.prog 8 #[v] w fun e w' => Below w.heap.size w w' ∧ 
      FormR k s n p e w' := by
  obtain ⟨i0', hi, hz0, hz1, hz2⟩ := info_parts info_u8
  have hB := below_new w (.cells #[.int .u8 0, .int .u8 0, .slice none 0 0] 24)
  have hs' := hs.later hB
  obtain ⟨A, c, rfl, _⟩ := hs.form
  have q1 : decide ((b.length : Int) < 5) = false := decide_eq_false (by omega)
  have hO := refOpen_c _ b _ hs' hl2
  have hpl := openV_len (b := b) (by rw [he])
  rw [he] at hO hpl
  have hpl2 : p.length ≤ 140737488355328 := by simp at hpl; omega
  have HO := Lib.hid hO
  clear hs hO he hpl
  go_enter Try.func8, Try.ntmps8
  go_wp2_with fail
  refine (HO.out).mono ?_
  rintro e w1 ⟨v1, rfl, ho1, b1⟩
  obtain ⟨A1, c1, rfl, c2, _⟩ := (sliceAt_of_own ho1).form
  obtain ⟨g, rfl⟩ := own_some ho1 (by simp)
  have S1 : SliceAt w1 1 (.slice (some ⟨g, 0, none⟩) (p.length + 3) c1) (p.length + 3) (u8s (k :: s :: n :: p)) := sliceAt_of_own ho1
  have hgb := own_base ho1 (g := g) rfl
  simp only [World.size_alloc] at hgb
  have x0 : w1.cell? ⟨g, 0, none⟩ = some (.int .u8 (k.toNat : Int)) := ho1.cellAt 0 (by simp)
  have x1 : w1.cell? ⟨g, 1, none⟩ = some (.int .u8 (s.toNat : Int)) := ho1.cellAt 1 (by simp)
  have x2 : w1.cell? ⟨g, 2, none⟩ = some (.int .u8 (n.toNat : Int)) := ho1.cellAt 2 (by simp)
  have hsub := S1.sub (lo := 3) (hi := p.length + 3) (by omega) (Nat.le_refl _)
  rw [Nat.add_sub_cancel, show List.take (p.length * 1) (List.drop (3 * 1) (u8s (k :: s :: n :: p))) = u8s p from by simp only [u8s, List.map_cons, Nat.mul_one, Nat.one_mul, List.drop_succ_cons, List.drop_zero]; exact List.take_of_length_le (by simp)] at hsub
  have g2 := below_at b1 (k := w.heap.size) (o := .cells #[.int .u8 0, .int .u8 0, .slice none 0 0] 24) (new_at rfl _) (by simp)
  have d0 := cell_at g2 0
  have d1 := cell_at g2 1
  have d2 := cell_at g2 2
  have e0 := free_at g2 0
  have e1 := free_at g2 1
  have e2 := free_at g2 2
  have c2' : p.length + 3 ≤ c1 := c2
  change Hid _ at HO
  clear HO c2 ho1
  obtain ⟨L, hL⟩ : ∃ L, p.length + 3 = L := ⟨_, rfl⟩
  rw [show (k :: s :: n :: p).length = L from hL]
  have i0 : 0 < L := by omega
  have i1 : (1 : Int) < (L : Int) := by omega
  have i2 : (2 : Int) < (L : Int) := by omega
  have i3 : (3 : Int) ≤ (L : Int) := by omega
  have i4 : (L : Int) ≤ (c1 : Int) := by omega
  have hcase : (c1 = 3 ∧ SliceAt w1 1 (.slice (some ⟨g, 0, none⟩) (L - 3) 0) p.length (u8s p)) ∨ (¬ c1 = 3 ∧ SliceAt w1 1 (.slice (some ⟨g, 3, none⟩) (L - 3) (c1 - 3)) p.length (u8s p)) := by
    have hp3 : L - 3 = p.length := by omega
    rw [hp3]
    by_cases hc3 : c1 = 3
    · left; rw [if_pos hc3] at hsub; rw [hc3] at hsub; exact ⟨hc3, hsub⟩
    · right; rw [if_neg hc3] at hsub; exact ⟨hc3, hsub⟩
  have HL := Lib.hid hL
  clear hL hsub
  have hgn : g ≠ w.heap.size := by omega
  have P0 : Pre w w1 g k.toNat s.toNat n.toNat := ⟨g2, x0, x1, x2, by omega, below_step hB b1⟩
  have P1 := P0.later (Below.refl _ w1).drew
  have hsz : w1.drew.heap.size = w1.heap.size := rfl
  have hw1 : g < w1.heap.size := hgb.2
  have HSZ := Lib.hid hsz
  clear g2 hsz d0 d1 d2 e0 e1 e2 P0
  rcases hcase with ⟨rfl, hs3⟩ | ⟨hc3, hs3⟩
  all_goals
    go_wp2_with fail
    refine wp_region_held_drew (S := (fun w' => w'.cell? ⟨g, 0, none⟩ = some (.int .u8 (k.toNat : Int)) ∧ w'.cell? ⟨g, 1, none⟩ = some (.int .u8 (s.toNat : Int)))) (by kernel_rfl) ?_ (fun hHeld => ?_)
    · exact ⟨x0, x1⟩
    refine wpAnyH_take (i := 0) (v := ?_) rfl (by kernel_rfl) (by kernel_rfl) (by kernel_rfl) (fun _ _ _ h => h) (Or.inl ⟨by rfl, ?_⟩) (by assumption) ?_
    rotate_left
    · intro w hSw
      try dsimp only at hSw
      go_simp
      try with_reducible rfl
    simp only [List.getElem_toArray, List.getElem_cons_succ, List.getElem_cons_zero, Act.put, List.setIfInBounds_toArray, List.set_cons_zero, List.set_cons_succ]
    refine wpAnyH_take (i := 1) (v := ?_) rfl (by kernel_rfl) (by kernel_rfl) (by kernel_rfl) (fun _ _ _ h => h) (Or.inl ⟨by rfl, ?_⟩) (by assumption) ?_
    rotate_left
    · intro w hSw
      try dsimp only at hSw
      go_simp
      try with_reducible rfl
    simp only [List.getElem_toArray, List.getElem_cons_succ, List.getElem_cons_zero, Act.put, List.setIfInBounds_toArray, List.set_cons_zero, List.set_cons_succ]
    refine wpAnyH_take (i := 2) (v := ?_) rfl (by kernel_rfl) (by kernel_rfl) (by kernel_rfl) (fun _ _ _ h => h) (Or.inl ⟨by rfl, ?_⟩) (by assumption) ?_
    rotate_left
    · intro w hSw
      try dsimp only at hSw
      go_simp
      try with_reducible rfl
    simp only [List.getElem_toArray, List.getElem_cons_succ, List.getElem_cons_zero, Act.put, List.setIfInBounds_toArray, List.set_cons_zero, List.set_cons_succ]
    refine wpAnyH_take (i := 3) (v := ?_) rfl (by kernel_rfl) (by kernel_rfl) (by kernel_rfl) (fun _ _ _ h => h) (Or.inl ⟨by rfl, ?_⟩) (by assumption) ?_
    rotate_left
    · intro w hSw
      try dsimp only at hSw
      go_simp
      try with_reducible rfl
    simp only [List.getElem_toArray, List.getElem_cons_succ, List.getElem_cons_zero, Act.put, List.setIfInBounds_toArray, List.set_cons_zero, List.set_cons_succ]
    refine wpAnyH_take (i := 4) (v := ?_) rfl (by kernel_rfl) (by kernel_rfl) (by kernel_rfl) (fun _ _ _ h => h) (Or.inl ⟨by rfl, ?_⟩) (by assumption) ?_
    rotate_left
    · intro w hSw
      try dsimp only at hSw
      go_simp
      try with_reducible rfl
    simp only [List.getElem_toArray, List.getElem_cons_succ, List.getElem_cons_zero, Act.put, List.setIfInBounds_toArray, List.set_cons_zero, List.set_cons_succ]
    refine wpAnyH_take (i := 5) (v := ?_) rfl (by kernel_rfl) (by kernel_rfl) (by kernel_rfl) (fun _ _ _ h => h) (Or.inl ⟨by rfl, ?_⟩) (by assumption) ?_
    rotate_left
    · intro w hSw
      try dsimp only at hSw
      go_simp
      try with_reducible rfl
    simp only [List.getElem_toArray, List.getElem_cons_succ, List.getElem_cons_zero, Act.put, List.setIfInBounds_toArray, List.set_cons_zero, List.set_cons_succ]
    refine wpAnyH_take (i := 7) (v := ?_) rfl (by kernel_rfl) (by kernel_rfl) (by kernel_rfl) (fun _ _ _ h => h) (Or.inl ⟨by rfl, ?_⟩) (by assumption) ?_
    rotate_left
    · intro w hSw
      try dsimp only at hSw
      go_simp
      try with_reducible rfl
    simp only [List.getElem_toArray, List.getElem_cons_succ, List.getElem_cons_zero, Act.put, List.setIfInBounds_toArray, List.set_cons_zero, List.set_cons_succ]
    refine wpAnyH_take (i := 8) (v := ?_) rfl (by kernel_rfl) (by kernel_rfl) (by kernel_rfl) (fun _ _ _ h => h) (Or.inl ⟨by rfl, ?_⟩) (by assumption) ?_
    rotate_left
    · intro w hSw
      try dsimp only at hSw
      go_simp
      try with_reducible rfl
    simp only [List.getElem_toArray, List.getElem_cons_succ, List.getElem_cons_zero, Act.put, List.setIfInBounds_toArray, List.set_cons_zero, List.set_cons_succ]
    have hs4 := hs3.later (Below.refl _ w1).drew
    have hW2 : g < w1.drew.heap.size := hw1
    clear hs3 x0 x1 x2
    generalize w1.drew = W2 at *
    refine wpAnyH_ready (rs := [6, 11]) (by kernel_rfl) (by simp) ?_
    refine AllReadyH.cons rfl ?_ (AllReadyH.cons rfl ?_ AllReadyH.nil)
    · intro K hK
      go_simp
      have b2 := below_new W2 (.cells #[] 5)
      have P2 := P1.later b2
      have hs5 := hs4.later b2
      have ho2 := own_empty W2 5 1
      refine hK.out _ _ ⟨P2.x0, P2.x1⟩ (fun _ => ?_)
      clear hK K
      try simp only [List.getElem_toArray, List.getElem_cons_succ, List.getElem_cons_zero, Act.put, List.setIfInBounds_toArray, List.set_cons_zero, List.set_cons_succ]
      refine wpAnyH_ready (rs := [9, 11]) (by kernel_rfl) (by simp) ?_
      refine AllReadyH.cons rfl ?_ (AllReadyH.cons rfl ?_ AllReadyH.nil)
      · intro K hK
        rw [if_pos (by rfl)]
        refine wp_append_src (.tmp 26) (.tmp 28) _ (by rfl) W2.heap.size 5 i0' _ 1 1 Try.underlying22 hi hz0 hz1 hz2 rfl (by omega) (.slice (some ⟨W2.heap.size, 0, none⟩) 0 0) 0 [] (by rfl) ho2 _ p.length (u8s p) (by rfl) hs5 (u8s_one p) (by simp only [maxLen]; omega) (by omega) (by simp) ?_
        intro v1 w3 ho3 hg3 hv3
        rw [Nat.zero_add, List.nil_append] at ho3
        have P3 := P1.later (below_own b2 hg3 (by simp) (by intro g hg; cases hg; exact Nat.le_refl _))
        have P4 := P3.later (below_new w3 (.cells zf 24))
        have n4 := new_at (w := w3) rfl (.cells zf 24)
        have o4 := own_later ho3 (w' := w3.alloc (.cells zf 24)) (fun g hg => Below.heap_alloc _ _ g (own_base ho3 hg).2)
        have hvn : v1.ownBlock ≠ some w3.heap.size := fun e => by have := (own_base ho3 e).2; omega
        have hl1 := lt_of_cell P3.x0
        have hl2 := P1.lt
        obtain ⟨A2, c2, rfl, _, _⟩ := (sliceAt_of_own ho3).form
        refine hK.out _ _ ⟨P3.x0, P3.x1⟩ (fun _ => ?_)
        clear hK K
        try simp only [List.getElem_toArray, List.getElem_cons_succ, List.getElem_cons_zero, Act.put, List.setIfInBounds_toArray, List.set_cons_zero, List.set_cons_succ]
        refine wpAnyH_take (i := 10) (v := ?_) rfl (by kernel_rfl) (by kernel_rfl) (by kernel_rfl) (fun _ _ _ h => h) (Or.inl ⟨by rfl, ?_⟩) (by assumption) ?_
        rotate_left
        · intro w hSw
          try dsimp only at hSw
          go_simp
          try with_reducible rfl
        simp only [List.getElem_toArray, List.getElem_cons_succ, List.getElem_cons_zero, Act.put, List.setIfInBounds_toArray, List.set_cons_zero, List.set_cons_succ]
        refine wpAnyH_ready (rs := [11]) (by kernel_rfl) (by simp) ?_
        refine AllReadyH.cons rfl (fun K hK => ?_) AllReadyH.nil
        go_simp
        refine hK.out _ _ ⟨P4.x0, P4.x1⟩ (fun _ => ?_)
        clear hK K
        try simp only [List.getElem_toArray, List.getElem_cons_succ, List.getElem_cons_zero, Act.put, List.setIfInBounds_toArray, List.set_cons_zero, List.set_cons_succ]
        have M : Mid w _ g w3.heap.size k.toNat s.toNat n.toNat (.slice A2 p.length c2) p := ⟨P4, own_base_le o4 (by omega), n4, hvn, by simp at hl1; omega, by simp at hl1; omega⟩
        clear P3 P4 n4 o4 hvn hl1 hl2 ho3 hg3 hv3 hs5 ho2 b2 P2
        generalize w3.alloc (.cells zf 24) = W4 at *
        generalize w3.heap.size = gv at *
        have d0 := cell_at M.at_ 0
        have d1 := cell_at M.at_ 1
        have d2 := cell_at M.at_ 2
        have e0 := free_at M.at_ 0
        have e1 := free_at M.at_ 1
        have e2 := free_at M.at_ 2
        refine wpAnyH_ready (rs := [12]) (by kernel_rfl) (by simp) ?_
        refine AllReadyH.cons rfl (fun K hK => ?_) AllReadyH.nil
        go_simp
        refine hK.out _ _ ⟨cell_far (cell_far (cell_far M.pre.x0 M.gne _) M.gne _) M.gne _, cell_far (cell_far (cell_far M.pre.x1 M.gne _) M.gne _) M.gne _⟩ (fun _ => ?_)
        clear hK K
        try simp only [List.getElem_toArray, List.getElem_cons_succ, List.getElem_cons_zero, Act.put, List.setIfInBounds_toArray, List.set_cons_zero, List.set_cons_succ]
        refine wpAnyH_done (by kernel_rfl) ?_ _
        have F := M.fin
        clear M d0 d1 d2 e0 e1 e2
        generalize ((W4.setCell ⟨gv, 0, none⟩ (.int .u8 (k.toNat : Int))).setCell ⟨gv, 1, none⟩ (.int .u8 (s.toNat : Int))).setCell ⟨gv, 2, none⟩ (.slice A2 p.length c2) = W5 at *
        clear hs4 P1 hW2
        have V := F.V
        have VD := V.later (Below.refl _ _).drew
        have x0 := V.c0
        have x1 := V.c1
        have x2 := V.c2
        have z2 := F.z2
        have hgs : g < W5.heap.size := lt_of_cell (p := ⟨g, 2, none⟩) z2
        have hgw : w.heap.size < W5.heap.size := (Array.getElem?_eq_some_iff.1 F.res).1
        have hn8 : (n.toNat : Int) < 256 := by have := n.isLt; omega
        have hwn : IntKind.i64.wrap (n.toNat : Int) = (n.toNat : Int) := IntWalk.i64_in _ (by have := n.isLt; omega)
        rcases hr : rightF k.toNat p.length with _ | _
        · have HR := Lib.hid hr
          clear hr
          go_wp2_with fail
          refine wp_region_held_drew (S := (fun w' => w'.cell? ⟨gv, 0, none⟩ = some (.int .u8 (k.toNat : Int)) ∧ w'.cell? ⟨gv, 1, none⟩ = some (.int .u8 (s.toNat : Int)) ∧ w'.cell? ⟨gv, 2, none⟩ = some (.slice A2 p.length c2))) (by kernel_rfl) ?_ (fun hHeld => ?_)
          · exact ⟨x0, x1, x2⟩
          refine wpAnyH_take (i := 0) (v := ?_) rfl (by kernel_rfl) (by kernel_rfl) (by kernel_rfl) (fun _ _ _ h => h) (Or.inl ⟨by rfl, ?_⟩) (by assumption) ?_
          rotate_left
          · intro w hSw
            try dsimp only at hSw
            go_simp
            try with_reducible rfl
          simp only [List.getElem_toArray, List.getElem_cons_succ, List.getElem_cons_zero, Act.put, List.setIfInBounds_toArray, List.set_cons_zero, List.set_cons_succ]
          refine wpAnyH_ready (rs := [1]) (by kernel_rfl) (by simp) ?_
          refine AllReadyH.cons rfl (fun K hK => ?_) AllReadyH.nil
          go_simp
          refine (refRight_g _ _ _ p false _ HR.out VD.sl).mono ?_
          rintro e w4 ⟨rfl, b4⟩
          refine hK.out _ _ ?_ (fun hHeld => ?_)
          · exact ⟨(VD.later b4).c0, (VD.later b4).c1, (VD.later b4).c2⟩
          clear hK K
          refine wpAnyH_take (i := 2) (v := ?_) rfl (by kernel_rfl) (by kernel_rfl) (by kernel_rfl) (fun _ _ _ h => h) (Or.inl ⟨by rfl, ?_⟩) (by assumption) ?_
          rotate_left
          · intro w hSw
            try dsimp only at hSw
            go_simp
            try with_reducible rfl
          simp only [List.getElem_toArray, List.getElem_cons_succ, List.getElem_cons_zero, Act.put, List.setIfInBounds_toArray, List.set_cons_zero, List.set_cons_succ]
          refine wpAnyH_take (i := 3) (v := ?_) rfl (by kernel_rfl) (by kernel_rfl) (by kernel_rfl) (fun _ _ _ h => h) (Or.inl ⟨by rfl, ?_⟩) (by assumption) ?_
          rotate_left
          · intro w hSw
            try dsimp only at hSw
            go_simp
            try with_reducible rfl
          simp only [List.getElem_toArray, List.getElem_cons_succ, List.getElem_cons_zero, Act.put, List.setIfInBounds_toArray, List.set_cons_zero, List.set_cons_succ]
          refine wpAnyH_take (i := 4) (v := undef) rfl (by kernel_rfl) (by kernel_rfl) (by kernel_rfl) (fun _ _ _ h => h) (Or.inr ⟨by kernel_rfl, rfl⟩) (by assumption) ?_
          refine wpAnyH_take (i := 5) (v := undef) rfl (by kernel_rfl) (by kernel_rfl) (by kernel_rfl) (fun _ _ _ h => h) (Or.inr ⟨by kernel_rfl, rfl⟩) (by assumption) ?_
          refine wpAnyH_take (i := 6) (v := undef) rfl (by kernel_rfl) (by kernel_rfl) (by kernel_rfl) (fun _ _ _ h => h) (Or.inr ⟨by kernel_rfl, rfl⟩) (by assumption) ?_
          refine wpAnyH_take (i := 7) (v := undef) rfl (by kernel_rfl) (by kernel_rfl) (by kernel_rfl) (fun _ _ _ h => h) (Or.inr ⟨by kernel_rfl, rfl⟩) (by assumption) ?_
          refine wpAnyH_take (i := 8) (v := undef) rfl (by kernel_rfl) (by kernel_rfl) (by kernel_rfl) (fun _ _ _ h => h) (Or.inr ⟨by kernel_rfl, rfl⟩) (by assumption) ?_
          refine wpAnyH_take (i := 9) (v := undef) rfl (by kernel_rfl) (by kernel_rfl) (by kernel_rfl) (fun _ _ _ h => h) (Or.inr ⟨by kernel_rfl, rfl⟩) (by assumption) ?_
          refine wpAnyH_take (i := 10) (v := undef) rfl (by kernel_rfl) (by kernel_rfl) (by kernel_rfl) (fun _ _ _ h => h) (Or.inr ⟨by kernel_rfl, rfl⟩) (by assumption) ?_
          refine wpAnyH_take (i := 11) (v := undef) rfl (by kernel_rfl) (by kernel_rfl) (by kernel_rfl) (fun _ _ _ h => h) (Or.inr ⟨by kernel_rfl, rfl⟩) (by assumption) ?_
          simp only [List.getElem_toArray, List.getElem_cons_succ, List.getElem_cons_zero, Act.put, List.setIfInBounds_toArray, List.set_cons_zero, List.set_cons_succ]
          refine wpAnyH_take (i := 12) (v := ?_) rfl (by kernel_rfl) (by kernel_rfl) (by kernel_rfl) (fun _ _ _ h => h) (Or.inl ⟨by rfl, ?_⟩) (by assumption) ?_
          rotate_left
          · intro w hSw
            try dsimp only at hSw
            go_simp
            try with_reducible rfl
          simp only [List.getElem_toArray, List.getElem_cons_succ, List.getElem_cons_zero, Act.put, List.setIfInBounds_toArray, List.set_cons_zero, List.set_cons_succ]
          refine wpAnyH_done (by kernel_rfl) ?_ _
          have r4 := below_at b4 (k := w.heap.size) F.res hgw
          have d0 := cell_at r4 0
          have d1 := cell_at r4 1
          have d2 := cell_at r4 2
          have e0 := free_at r4 0
          have e1 := free_at r4 1
          have e2 := free_at r4 2
          clear x0 x1 x2 z2
          go_wp2
          refine bodyPost_ret (res_frm2 (t := 2) (u := 3) rfl rfl (set_at (set_at (set_at r4 0 _) 1 _) 2 _)) rfl ⟨?_, ?_⟩
          · exact ((((F.B.drew).trans (b4.mono F.B.size)).setCell (by simp) _).setCell (by simp) _).setCell (by simp) _
          · exact FormR.bad (.inl HR.out) rfl
        · have HR := Lib.hid hr
          clear hr
          have hnp : ((n.toNat : Int) == (p.length : Int)) = true ∨ ((n.toNat : Int) == (p.length : Int)) = false := by cases ((n.toNat : Int) == (p.length : Int)) <;> simp
          rcases hnp with hnp | hnp
          all_goals
            have HNP := Lib.hid hnp
            have hnp2 : ((n.toNat : Int) != (p.length : Int)) = false ∨ ((n.toNat : Int) != (p.length : Int)) = true := by cases ((n.toNat : Int) != (p.length : Int)) <;> simp
            have hnp3 : ((n.toNat : Int) != (p.length : Int)) = !((n.toNat : Int) == (p.length : Int)) := rfl
            rcases hnp2 with hnp2 | hnp2
            all_goals first | (exfalso; rw [HNP.out, hnp2] at hnp3; cases hnp3; done) | skip
            clear hnp3
            go_wp2_with fail
            go_region_held3 (fun w' => w'.cell? ⟨gv, 0, none⟩ = some (.int .u8 (k.toNat : Int)) ∧ w'.cell? ⟨gv, 1, none⟩ = some (.int .u8 (s.toNat : Int)) ∧ w'.cell? ⟨gv, 2, none⟩ = some (.slice A2 p.length c2) ∧ w'.cell? ⟨g, 2, none⟩ = some (.int .u8 (n.toNat : Int)))
              (first | exact ⟨V4.c0, V4.c1, V4.c2, z4⟩ | exact ⟨x0, x1, x2, z2⟩)
              (first | (go_at_call 12; refine (refRight_g _ _ _ p true _ HR.out VD.sl).mono ?_; rintro e w4 ⟨rfl, b4⟩; have V4 := VD.later b4; have z4 := (b4.cell (p := ⟨g, 2, none⟩) hgs).trans z2))
            have r4 := below_at b4 (k := w.heap.size) F.res hgw
            have d0 := cell_at r4 0
            have d1 := cell_at r4 1
            have d2 := cell_at r4 2
            have e0 := free_at r4 0
            have e1 := free_at r4 1
            have e2 := free_at r4 2
            have y0 := V4.c0
            have y1 := V4.c1
            have y2 := V4.c2
            clear x0 x1 x2 z2 z4
            go_wp2
            refine bodyPost_ret (res_frm2 (t := 2) (u := 3) rfl rfl (set_at (set_at (set_at r4 0 _) 1 _) 2 _)) rfl ⟨?_, ?_⟩
            · exact ((((F.B.drew).trans (b4.mono F.B.size)).setCell (by simp) _).setCell (by simp) _).setCell (by simp) _
            · first
              | exact FormR.bad (.inr HNP.out) rfl
              | exact FormR.fine HR.out HNP.out rfl (slice_keep V4.sl ((((Keep.refl (fun q => q ≠ w.heap.size) w4).setCell (fun _ h => h rfl) _).setCell (fun _ h => h rfl) _).setCell (fun _ h => h rfl) _) F.ne)
      · intro K hK
        go_simp
        have bf := below_new (W2.alloc (.cells #[] 5)) (.cells zf 24)
        have hs5 := hs5.later bf
        have of := own_later ho2 (w' := (W2.alloc (.cells #[] 5)).alloc (.cells zf 24)) (fun g hg => Below.heap_alloc _ _ g (own_base ho2 hg).2)
        have nf := new_at (w := W2.alloc (.cells #[] 5)) rfl (.cells zf 24)
        rw [World.size_alloc] at nf
        have Pf := P2.later bf
        have b3 := below_step b2 bf
        have hwf : ((W2.alloc (.cells #[] 5)).alloc (.cells zf 24)).heap.size = W2.heap.size + 2 := by simp
        refine hK.out _ _ ⟨Pf.x0, Pf.x1⟩ (fun _ => ?_)
        clear hK K
        try simp only [List.getElem_toArray, List.getElem_cons_succ, List.getElem_cons_zero, Act.put, List.setIfInBounds_toArray, List.set_cons_zero, List.set_cons_succ]
        generalize hWf : (W2.alloc (.cells #[] 5)).alloc (.cells zf 24) = Wf at *
        clear hWf
        refine wpAnyH_ready (rs := [9]) (by kernel_rfl) (by simp) ?_
        refine AllReadyH.cons rfl ?_ AllReadyH.nil
        intro K hK
        rw [if_pos (by rfl)]
        refine wp_append_src (.tmp 26) (.tmp 28) _ (by rfl) W2.heap.size 5 i0' _ 1 1 Try.underlying22 hi hz0 hz1 hz2 rfl (by omega) (.slice (some ⟨W2.heap.size, 0, none⟩) 0 0) 0 [] (by rfl) of _ p.length (u8s p) (by rfl) hs5 (u8s_one p) (by simp only [maxLen]; omega) (by omega) (by omega) ?_
        intro v1 W4 ho3 hg3 hv3
        rw [Nat.zero_add, List.nil_append] at ho3
        have P3 := P1.later (below_own b3 hg3 (by omega) (by intro g hg; cases hg; exact Nat.le_refl _))
        have hl2 := P1.lt
        have n3 := (hg3.block (W2.heap.size + 1) (by omega) (fun e => by have := Option.some.inj e; simp at this)).trans nf
        have hvn : v1.ownBlock ≠ some (W2.heap.size + 1) := by
          rcases hv3 with e | e
          · rw [e]; intro e2; have := Option.some.inj e2; simp at this
          · rw [e]; intro e2; have := Option.some.inj e2; omega
        obtain ⟨A2, c2, rfl, _, _⟩ := (sliceAt_of_own ho3).form
        refine hK.out _ _ ⟨P3.x0, P3.x1⟩ (fun _ => ?_)
        clear hK K
        try simp only [List.getElem_toArray, List.getElem_cons_succ, List.getElem_cons_zero, Act.put, List.setIfInBounds_toArray, List.set_cons_zero, List.set_cons_succ]
        refine wpAnyH_take (i := 10) (v := ?_) rfl (by kernel_rfl) (by kernel_rfl) (by kernel_rfl) (fun _ _ _ h => h) (Or.inl ⟨by rfl, ?_⟩) (by assumption) ?_
        rotate_left
        · intro w hSw
          try dsimp only at hSw
          go_simp
          try with_reducible rfl
        simp only [List.getElem_toArray, List.getElem_cons_succ, List.getElem_cons_zero, Act.put, List.setIfInBounds_toArray, List.set_cons_zero, List.set_cons_succ]
        have M : Mid w _ g (W2.heap.size + 1) k.toNat s.toNat n.toNat (.slice A2 p.length c2) p := ⟨P3, own_base_le ho3 (by omega), n3, hvn, by omega, by omega⟩
        clear P3 n3 hvn hl2 ho3 hg3 hv3 hs5 ho2 b2 P2 bf of nf Pf b3 hwf
        generalize W2.heap.size + 1 = gv at *
        have d0 := cell_at M.at_ 0
        have d1 := cell_at M.at_ 1
        have d2 := cell_at M.at_ 2
        have e0 := free_at M.at_ 0
        have e1 := free_at M.at_ 1
        have e2 := free_at M.at_ 2
        refine wpAnyH_ready (rs := [12]) (by kernel_rfl) (by simp) ?_
        refine AllReadyH.cons rfl (fun K hK => ?_) AllReadyH.nil
        go_simp
        refine hK.out _ _ ⟨cell_far (cell_far (cell_far M.pre.x0 M.gne _) M.gne _) M.gne _, cell_far (cell_far (cell_far M.pre.x1 M.gne _) M.gne _) M.gne _⟩ (fun _ => ?_)
        clear hK K
        try simp only [List.getElem_toArray, List.getElem_cons_succ, List.getElem_cons_zero, Act.put, List.setIfInBounds_toArray, List.set_cons_zero, List.set_cons_succ]
        refine wpAnyH_done (by kernel_rfl) ?_ _
        have F := M.fin
        clear M d0 d1 d2 e0 e1 e2
        generalize ((W4.setCell ⟨gv, 0, none⟩ (.int .u8 (k.toNat : Int))).setCell ⟨gv, 1, none⟩ (.int .u8 (s.toNat : Int))).setCell ⟨gv, 2, none⟩ (.slice A2 p.length c2) = W5 at *
        clear hs4 P1 hW2
        have V := F.V
        have VD := V.later (Below.refl _ _).drew
        have x0 := V.c0
        have x1 := V.c1
        have x2 := V.c2
        have z2 := F.z2
        have hgs : g < W5.heap.size := lt_of_cell (p := ⟨g, 2, none⟩) z2
        have hgw : w.heap.size < W5.heap.size := (Array.getElem?_eq_some_iff.1 F.res).1
        have hn8 : (n.toNat : Int) < 256 := by have := n.isLt; omega
        have hwn : IntKind.i64.wrap (n.toNat : Int) = (n.toNat : Int) := IntWalk.i64_in _ (by have := n.isLt; omega)
        rcases hr : rightF k.toNat p.length with _ | _
        · have HR := Lib.hid hr
          clear hr
          go_wp2_with fail
          refine wp_region_held_drew (S := (fun w' => w'.cell? ⟨gv, 0, none⟩ = some (.int .u8 (k.toNat : Int)) ∧ w'.cell? ⟨gv, 1, none⟩ = some (.int .u8 (s.toNat : Int)) ∧ w'.cell? ⟨gv, 2, none⟩ = some (.slice A2 p.length c2))) (by kernel_rfl) ?_ (fun hHeld => ?_)
          · exact ⟨x0, x1, x2⟩
          refine wpAnyH_take (i := 0) (v := ?_) rfl (by kernel_rfl) (by kernel_rfl) (by kernel_rfl) (fun _ _ _ h => h) (Or.inl ⟨by rfl, ?_⟩) (by assumption) ?_
          rotate_left
          · intro w hSw
            try dsimp only at hSw
            go_simp
            try with_reducible rfl
          simp only [List.getElem_toArray, List.getElem_cons_succ, List.getElem_cons_zero, Act.put, List.setIfInBounds_toArray, List.set_cons_zero, List.set_cons_succ]
          refine wpAnyH_ready (rs := [1]) (by kernel_rfl) (by simp) ?_
          refine AllReadyH.cons rfl (fun K hK => ?_) AllReadyH.nil
          go_simp
          refine (refRight_g _ _ _ p false _ HR.out VD.sl).mono ?_
          rintro e w4 ⟨rfl, b4⟩
          refine hK.out _ _ ?_ (fun hHeld => ?_)
          · exact ⟨(VD.later b4).c0, (VD.later b4).c1, (VD.later b4).c2⟩
          clear hK K
          refine wpAnyH_take (i := 2) (v := ?_) rfl (by kernel_rfl) (by kernel_rfl) (by kernel_rfl) (fun _ _ _ h => h) (Or.inl ⟨by rfl, ?_⟩) (by assumption) ?_
          rotate_left
          · intro w hSw
            try dsimp only at hSw
            go_simp
            try with_reducible rfl
          simp only [List.getElem_toArray, List.getElem_cons_succ, List.getElem_cons_zero, Act.put, List.setIfInBounds_toArray, List.set_cons_zero, List.set_cons_succ]
          refine wpAnyH_take (i := 3) (v := ?_) rfl (by kernel_rfl) (by kernel_rfl) (by kernel_rfl) (fun _ _ _ h => h) (Or.inl ⟨by rfl, ?_⟩) (by assumption) ?_
          rotate_left
          · intro w hSw
            try dsimp only at hSw
            go_simp
            try with_reducible rfl
          simp only [List.getElem_toArray, List.getElem_cons_succ, List.getElem_cons_zero, Act.put, List.setIfInBounds_toArray, List.set_cons_zero, List.set_cons_succ]
          refine wpAnyH_take (i := 4) (v := undef) rfl (by kernel_rfl) (by kernel_rfl) (by kernel_rfl) (fun _ _ _ h => h) (Or.inr ⟨by kernel_rfl, rfl⟩) (by assumption) ?_
          refine wpAnyH_take (i := 5) (v := undef) rfl (by kernel_rfl) (by kernel_rfl) (by kernel_rfl) (fun _ _ _ h => h) (Or.inr ⟨by kernel_rfl, rfl⟩) (by assumption) ?_
          refine wpAnyH_take (i := 6) (v := undef) rfl (by kernel_rfl) (by kernel_rfl) (by kernel_rfl) (fun _ _ _ h => h) (Or.inr ⟨by kernel_rfl, rfl⟩) (by assumption) ?_
          refine wpAnyH_take (i := 7) (v := undef) rfl (by kernel_rfl) (by kernel_rfl) (by kernel_rfl) (fun _ _ _ h => h) (Or.inr ⟨by kernel_rfl, rfl⟩) (by assumption) ?_
          refine wpAnyH_take (i := 8) (v := undef) rfl (by kernel_rfl) (by kernel_rfl) (by kernel_rfl) (fun _ _ _ h => h) (Or.inr ⟨by kernel_rfl, rfl⟩) (by assumption) ?_
          refine wpAnyH_take (i := 9) (v := undef) rfl (by kernel_rfl) (by kernel_rfl) (by kernel_rfl) (fun _ _ _ h => h) (Or.inr ⟨by kernel_rfl, rfl⟩) (by assumption) ?_
          refine wpAnyH_take (i := 10) (v := undef) rfl (by kernel_rfl) (by kernel_rfl) (by kernel_rfl) (fun _ _ _ h => h) (Or.inr ⟨by kernel_rfl, rfl⟩) (by assumption) ?_
          refine wpAnyH_take (i := 11) (v := undef) rfl (by kernel_rfl) (by kernel_rfl) (by kernel_rfl) (fun _ _ _ h => h) (Or.inr ⟨by kernel_rfl, rfl⟩) (by assumption) ?_
          simp only [List.getElem_toArray, List.getElem_cons_succ, List.getElem_cons_zero, Act.put, List.setIfInBounds_toArray, List.set_cons_zero, List.set_cons_succ]
          refine wpAnyH_take (i := 12) (v := ?_) rfl (by kernel_rfl) (by kernel_rfl) (by kernel_rfl) (fun _ _ _ h => h) (Or.inl ⟨by rfl, ?_⟩) (by assumption) ?_
          rotate_left
          · intro w hSw
            try dsimp only at hSw
            go_simp
            try with_reducible rfl
          simp only [List.getElem_toArray, List.getElem_cons_succ, List.getElem_cons_zero, Act.put, List.setIfInBounds_toArray, List.set_cons_zero, List.set_cons_succ]
          refine wpAnyH_done (by kernel_rfl) ?_ _
          have r4 := below_at b4 (k := w.heap.size) F.res hgw
          have d0 := cell_at r4 0
          have d1 := cell_at r4 1
          have d2 := cell_at r4 2
          have e0 := free_at r4 0
          have e1 := free_at r4 1
          have e2 := free_at r4 2
          clear x0 x1 x2 z2
          go_wp2
          refine bodyPost_ret (res_frm2 (t := 2) (u := 3) rfl rfl (set_at (set_at (set_at r4 0 _) 1 _) 2 _)) rfl ⟨?_, ?_⟩
          · exact ((((F.B.drew).trans (b4.mono F.B.size)).setCell (by simp) _).setCell (by simp) _).setCell (by simp) _
          · exact FormR.bad (.inl HR.out) rfl
        · have HR := Lib.hid hr
          clear hr
          have hnp : ((n.toNat : Int) == (p.length : Int)) = true ∨ ((n.toNat : Int) == (p.length : Int)) = false := by cases ((n.toNat : Int) == (p.length : Int)) <;> simp
          rcases hnp with hnp | hnp
          all_goals
            have HNP := Lib.hid hnp
            have hnp2 : ((n.toNat : Int) != (p.length : Int)) = false ∨ ((n.toNat : Int) != (p.length : Int)) = true := by cases ((n.toNat : Int) != (p.length : Int)) <;> simp
            have hnp3 : ((n.toNat : Int) != (p.length : Int)) = !((n.toNat : Int) == (p.length : Int)) := rfl
            rcases hnp2 with hnp2 | hnp2
            all_goals first | (exfalso; rw [HNP.out, hnp2] at hnp3; cases hnp3; done) | skip
            clear hnp3
            go_wp2_with fail
            go_region_held3 (fun w' => w'.cell? ⟨gv, 0, none⟩ = some (.int .u8 (k.toNat : Int)) ∧ w'.cell? ⟨gv, 1, none⟩ = some (.int .u8 (s.toNat : Int)) ∧ w'.cell? ⟨gv, 2, none⟩ = some (.slice A2 p.length c2) ∧ w'.cell? ⟨g, 2, none⟩ = some (.int .u8 (n.toNat : Int)))
              (first | exact ⟨V4.c0, V4.c1, V4.c2, z4⟩ | exact ⟨x0, x1, x2, z2⟩)
              (first | (go_at_call 12; refine (refRight_g _ _ _ p true _ HR.out VD.sl).mono ?_; rintro e w4 ⟨rfl, b4⟩; have V4 := VD.later b4; have z4 := (b4.cell (p := ⟨g, 2, none⟩) hgs).trans z2))
            have r4 := below_at b4 (k := w.heap.size) F.res hgw
            have d0 := cell_at r4 0
            have d1 := cell_at r4 1
            have d2 := cell_at r4 2
            have e0 := free_at r4 0
            have e1 := free_at r4 1
            have e2 := free_at r4 2
            have y0 := V4.c0
            have y1 := V4.c1
            have y2 := V4.c2
            clear x0 x1 x2 z2 z4
            go_wp2
            refine bodyPost_ret (res_frm2 (t := 2) (u := 3) rfl rfl (set_at (set_at (set_at r4 0 _) 1 _) 2 _)) rfl ⟨?_, ?_⟩
            · exact ((((F.B.drew).trans (b4.mono F.B.size)).setCell (by simp) _).setCell (by simp) _).setCell (by simp) _
            · first
              | exact FormR.bad (.inr HNP.out) rfl
              | exact FormR.fine HR.out HNP.out rfl (slice_keep V4.sl ((((Keep.refl (fun q => q ≠ w.heap.size) w4).setCell (fun _ h => h rfl) _).setCell (fun _ h => h rfl) _).setCell (fun _ h => h rfl) _) F.ne)
    · intro K hK
      go_simp
      have b2 := below_new W2 (.cells zf 24)
      have P2 := P1.later b2
      have bf := below_new (W2.alloc (.cells zf 24)) (.cells #[] 5)
      have hs5 := hs4.later (below_step b2 bf)
      have of := own_empty (W2.alloc (.cells zf 24)) 5 1
      have nf := old_at (new_at (w := W2) rfl (.cells zf 24)) (.cells #[] 5)
      rw [World.size_alloc] at of
      have Pf := P2.later bf
      have b3 := below_step b2 bf
      have hwf : ((W2.alloc (.cells zf 24)).alloc (.cells #[] 5)).heap.size = W2.heap.size + 2 := by simp
      refine hK.out _ _ ⟨P2.x0, P2.x1⟩ (fun _ => ?_)
      clear hK K
      try simp only [List.getElem_toArray, List.getElem_cons_succ, List.getElem_cons_zero, Act.put, List.setIfInBounds_toArray, List.set_cons_zero, List.set_cons_succ]
      refine wpAnyH_ready (rs := [6]) (by kernel_rfl) (by simp) ?_
      refine AllReadyH.cons rfl ?_ AllReadyH.nil
      intro K hK
      go_simp
      refine hK.out _ _ ⟨Pf.x0, Pf.x1⟩ (fun _ => ?_)
      clear hK K
      try simp only [List.getElem_toArray, List.getElem_cons_succ, List.getElem_cons_zero, Act.put, List.setIfInBounds_toArray, List.set_cons_zero, List.set_cons_succ]
      generalize hWf : (W2.alloc (.cells zf 24)).alloc (.cells #[] 5) = Wf at *
      clear hWf
      refine wpAnyH_ready (rs := [9]) (by kernel_rfl) (by simp) ?_
      refine AllReadyH.cons rfl ?_ AllReadyH.nil
      intro K hK
      rw [if_pos (by rfl)]
      refine wp_append_src (.tmp 26) (.tmp 28) _ (by rfl) (W2.heap.size + 1) 5 i0' _ 1 1 Try.underlying22 hi hz0 hz1 hz2 rfl (by omega) (.slice (some ⟨W2.heap.size + 1, 0, none⟩) 0 0) 0 [] (by rfl) of _ p.length (u8s p) (by rfl) hs5 (u8s_one p) (by simp only [maxLen]; omega) (by omega) (by omega) ?_
      intro v1 W4 ho3 hg3 hv3
      rw [Nat.zero_add, List.nil_append] at ho3
      have P3 := P1.later (below_own b3 hg3 (by omega) (by intro g hg; cases hg; exact Nat.le_succ _))
      have hl2 := P1.lt
      have n3 := (hg3.block W2.heap.size (by omega) (fun e => by have := Option.some.inj e; simp at this)).trans nf
      have hvn : v1.ownBlock ≠ some W2.heap.size := by
        intro e2
        have := (own_base ho3 e2).1
        omega
      obtain ⟨A2, c2, rfl, _, _⟩ := (sliceAt_of_own ho3).form
      refine hK.out _ _ ⟨P3.x0, P3.x1⟩ (fun _ => ?_)
      clear hK K
      try simp only [List.getElem_toArray, List.getElem_cons_succ, List.getElem_cons_zero, Act.put, List.setIfInBounds_toArray, List.set_cons_zero, List.set_cons_succ]
      refine wpAnyH_take (i := 10) (v := ?_) rfl (by kernel_rfl) (by kernel_rfl) (by kernel_rfl) (fun _ _ _ h => h) (Or.inl ⟨by rfl, ?_⟩) (by assumption) ?_
      rotate_left
      · intro w hSw
        try dsimp only at hSw
        go_simp
        try with_reducible rfl
      simp only [List.getElem_toArray, List.getElem_cons_succ, List.getElem_cons_zero, Act.put, List.setIfInBounds_toArray, List.set_cons_zero, List.set_cons_succ]
      have M : Mid w _ g W2.heap.size k.toNat s.toNat n.toNat (.slice A2 p.length c2) p := ⟨P3, own_base_le ho3 (by omega), n3, hvn, by omega, by omega⟩
      clear P3 n3 hvn hl2 ho3 hg3 hv3 hs5 b2 P2 bf of nf Pf b3 hwf
      generalize W2.heap.size = gv at *
      have d0 := cell_at M.at_ 0
      have d1 := cell_at M.at_ 1
      have d2 := cell_at M.at_ 2
      have e0 := free_at M.at_ 0
      have e1 := free_at M.at_ 1
      have e2 := free_at M.at_ 2
      refine wpAnyH_ready (rs := [12]) (by kernel_rfl) (by simp) ?_
      refine AllReadyH.cons rfl (fun K hK => ?_) AllReadyH.nil
      go_simp
      refine hK.out _ _ ⟨cell_far (cell_far (cell_far M.pre.x0 M.gne _) M.gne _) M.gne _, cell_far (cell_far (cell_far M.pre.x1 M.gne _) M.gne _) M.gne _⟩ (fun _ => ?_)
      clear hK K
      try simp only [List.getElem_toArray, List.getElem_cons_succ, List.getElem_cons_zero, Act.put, List.setIfInBounds_toArray, List.set_cons_zero, List.set_cons_succ]
      refine wpAnyH_done (by kernel_rfl) ?_ _
      have F := M.fin
      clear M d0 d1 d2 e0 e1 e2
      generalize ((W4.setCell ⟨gv, 0, none⟩ (.int .u8 (k.toNat : Int))).setCell ⟨gv, 1, none⟩ (.int .u8 (s.toNat : Int))).setCell ⟨gv, 2, none⟩ (.slice A2 p.length c2) = W5 at *
      clear hs4 P1 hW2
      have V := F.V
      have VD := V.later (Below.refl _ _).drew
      have x0 := V.c0
      have x1 := V.c1
      have x2 := V.c2
      have z2 := F.z2
      have hgs : g < W5.heap.size := lt_of_cell (p := ⟨g, 2, none⟩) z2
      have hgw : w.heap.size < W5.heap.size := (Array.getElem?_eq_some_iff.1 F.res).1
      have hn8 : (n.toNat : Int) < 256 := by have := n.isLt; omega
      have hwn : IntKind.i64.wrap (n.toNat : Int) = (n.toNat : Int) := IntWalk.i64_in _ (by have := n.isLt; omega)
      rcases hr : rightF k.toNat p.length with _ | _
      · have HR := Lib.hid hr
        clear hr
        go_wp2_with fail
        refine wp_region_held_drew (S := (fun w' => w'.cell? ⟨gv, 0, none⟩ = some (.int .u8 (k.toNat : Int)) ∧ w'.cell? ⟨gv, 1, none⟩ = some (.int .u8 (s.toNat : Int)) ∧ w'.cell? ⟨gv, 2, none⟩ = some (.slice A2 p.length c2))) (by kernel_rfl) ?_ (fun hHeld => ?_)
        · exact ⟨x0, x1, x2⟩
        refine wpAnyH_take (i := 0) (v := ?_) rfl (by kernel_rfl) (by kernel_rfl) (by kernel_rfl) (fun _ _ _ h => h) (Or.inl ⟨by rfl, ?_⟩) (by assumption) ?_
        rotate_left
        · intro w hSw
          try dsimp only at hSw
          go_simp
          try with_reducible rfl
        simp only [List.getElem_toArray, List.getElem_cons_succ, List.getElem_cons_zero, Act.put, List.setIfInBounds_toArray, List.set_cons_zero, List.set_cons_succ]
        refine wpAnyH_ready (rs := [1]) (by kernel_rfl) (by simp) ?_
        refine AllReadyH.cons rfl (fun K hK => ?_) AllReadyH.nil
        go_simp
        refine (refRight_g _ _ _ p false _ HR.out VD.sl).mono ?_
        rintro e w4 ⟨rfl, b4⟩
        refine hK.out _ _ ?_ (fun hHeld => ?_)
        · exact ⟨(VD.later b4).c0, (VD.later b4).c1, (VD.later b4).c2⟩
        clear hK K
        refine wpAnyH_take (i := 2) (v := ?_) rfl (by kernel_rfl) (by kernel_rfl) (by kernel_rfl) (fun _ _ _ h => h) (Or.inl ⟨by rfl, ?_⟩) (by assumption) ?_
        rotate_left
        · intro w hSw
          try dsimp only at hSw
          go_simp
          try with_reducible rfl
        simp only [List.getElem_toArray, List.getElem_cons_succ, List.getElem_cons_zero, Act.put, List.setIfInBounds_toArray, List.set_cons_zero, List.set_cons_succ]
        refine wpAnyH_take (i := 3) (v := ?_) rfl (by kernel_rfl) (by kernel_rfl) (by kernel_rfl) (fun _ _ _ h => h) (Or.inl ⟨by rfl, ?_⟩) (by assumption) ?_
        rotate_left
        · intro w hSw
          try dsimp only at hSw
          go_simp
          try with_reducible rfl
        simp only [List.getElem_toArray, List.getElem_cons_succ, List.getElem_cons_zero, Act.put, List.setIfInBounds_toArray, List.set_cons_zero, List.set_cons_succ]
        refine wpAnyH_take (i := 4) (v := undef) rfl (by kernel_rfl) (by kernel_rfl) (by kernel_rfl) (fun _ _ _ h => h) (Or.inr ⟨by kernel_rfl, rfl⟩) (by assumption) ?_
        refine wpAnyH_take (i := 5) (v := undef) rfl (by kernel_rfl) (by kernel_rfl) (by kernel_rfl) (fun _ _ _ h => h) (Or.inr ⟨by kernel_rfl, rfl⟩) (by assumption) ?_
        refine wpAnyH_take (i := 6) (v := undef) rfl (by kernel_rfl) (by kernel_rfl) (by kernel_rfl) (fun _ _ _ h => h) (Or.inr ⟨by kernel_rfl, rfl⟩) (by assumption) ?_
        refine wpAnyH_take (i := 7) (v := undef) rfl (by kernel_rfl) (by kernel_rfl) (by kernel_rfl) (fun _ _ _ h => h) (Or.inr ⟨by kernel_rfl, rfl⟩) (by assumption) ?_
        refine wpAnyH_take (i := 8) (v := undef) rfl (by kernel_rfl) (by kernel_rfl) (by kernel_rfl) (fun _ _ _ h => h) (Or.inr ⟨by kernel_rfl, rfl⟩) (by assumption) ?_
        refine wpAnyH_take (i := 9) (v := undef) rfl (by kernel_rfl) (by kernel_rfl) (by kernel_rfl) (fun _ _ _ h => h) (Or.inr ⟨by kernel_rfl, rfl⟩) (by assumption) ?_
        refine wpAnyH_take (i := 10) (v := undef) rfl (by kernel_rfl) (by kernel_rfl) (by kernel_rfl) (fun _ _ _ h => h) (Or.inr ⟨by kernel_rfl, rfl⟩) (by assumption) ?_
        refine wpAnyH_take (i := 11) (v := undef) rfl (by kernel_rfl) (by kernel_rfl) (by kernel_rfl) (fun _ _ _ h => h) (Or.inr ⟨by kernel_rfl, rfl⟩) (by assumption) ?_
        simp only [List.getElem_toArray, List.getElem_cons_succ, List.getElem_cons_zero, Act.put, List.setIfInBounds_toArray, List.set_cons_zero, List.set_cons_succ]
        refine wpAnyH_take (i := 12) (v := ?_) rfl (by kernel_rfl) (by kernel_rfl) (by kernel_rfl) (fun _ _ _ h => h) (Or.inl ⟨by rfl, ?_⟩) (by assumption) ?_
        rotate_left
        · intro w hSw
          try dsimp only at hSw
          go_simp
          try with_reducible rfl
        simp only [List.getElem_toArray, List.getElem_cons_succ, List.getElem_cons_zero, Act.put, List.setIfInBounds_toArray, List.set_cons_zero, List.set_cons_succ]
        refine wpAnyH_done (by kernel_rfl) ?_ _
        have r4 := below_at b4 (k := w.heap.size) F.res hgw
        have d0 := cell_at r4 0
        have d1 := cell_at r4 1
        have d2 := cell_at r4 2
        have e0 := free_at r4 0
        have e1 := free_at r4 1
        have e2 := free_at r4 2
        clear x0 x1 x2 z2
        go_wp2
        refine bodyPost_ret (res_frm2 (t := 2) (u := 3) rfl rfl (set_at (set_at (set_at r4 0 _) 1 _) 2 _)) rfl ⟨?_, ?_⟩
        · exact ((((F.B.drew).trans (b4.mono F.B.size)).setCell (by simp) _).setCell (by simp) _).setCell (by simp) _
        · exact FormR.bad (.inl HR.out) rfl
      · have HR := Lib.hid hr
        clear hr
        have hnp : ((n.toNat : Int) == (p.length : Int)) = true ∨ ((n.toNat : Int) == (p.length : Int)) = false := by cases ((n.toNat : Int) == (p.length : Int)) <;> simp
        rcases hnp with hnp | hnp
        all_goals
          have HNP := Lib.hid hnp
          have hnp2 : ((n.toNat : Int) != (p.length : Int)) = false ∨ ((n.toNat : Int) != (p.length : Int)) = true := by cases ((n.toNat : Int) != (p.length : Int)) <;> simp
          have hnp3 : ((n.toNat : Int) != (p.length : Int)) = !((n.toNat : Int) == (p.length : Int)) := rfl
          rcases hnp2 with hnp2 | hnp2
          all_goals first | (exfalso; rw [HNP.out, hnp2] at hnp3; cases hnp3; done) | skip
          clear hnp3
          go_wp2_with fail
          go_region_held3 (fun w' => w'.cell? ⟨gv, 0, none⟩ = some (.int .u8 (k.toNat : Int)) ∧ w'.cell? ⟨gv, 1, none⟩ = some (.int .u8 (s.toNat : Int)) ∧ w'.cell? ⟨gv, 2, none⟩ = some (.slice A2 p.length c2) ∧ w'.cell? ⟨g, 2, none⟩ = some (.int .u8 (n.toNat : Int)))
            (first | exact ⟨V4.c0, V4.c1, V4.c2, z4⟩ | exact ⟨x0, x1, x2, z2⟩)
            (first | (go_at_call 12; refine (refRight_g _ _ _ p true _ HR.out VD.sl).mono ?_; rintro e w4 ⟨rfl, b4⟩; have V4 := VD.later b4; have z4 := (b4.cell (p := ⟨g, 2, none⟩) hgs).trans z2))
          have r4 := below_at b4 (k := w.heap.size) F.res hgw
          have d0 := cell_at r4 0
          have d1 := cell_at r4 1
          have d2 := cell_at r4 2
          have e0 := free_at r4 0
          have e1 := free_at r4 1
          have e2 := free_at r4 2
          have y0 := V4.c0
          have y1 := V4.c1
          have y2 := V4.c2
          clear x0 x1 x2 z2 z4
          go_wp2
          refine bodyPost_ret (res_frm2 (t := 2) (u := 3) rfl rfl (set_at (set_at (set_at r4 0 _) 1 _) 2 _)) rfl ⟨?_, ?_⟩
          · exact ((((F.B.drew).trans (b4.mono F.B.size)).setCell (by simp) _).setCell (by simp) _).setCell (by simp) _
          · first
            | exact FormR.bad (.inr HNP.out) rfl
            | exact FormR.fine HR.out HNP.out rfl (slice_keep V4.sl ((((Keep.refl (fun q => q ≠ w.heap.size) w4).setCell (fun _ h => h rfl) _).setCell (fun _ h => h rfl) _).setCell (fun _ h => h rfl) _) F.ne)
end Go.Proofs.Ytkjmbnficdilhaa
