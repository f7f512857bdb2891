/- Frames: Take. -/
import Derived.Test.YtkjmbnficdilhaaFrmD
import Derived.Deep.RegionWith
namespace Go.Proofs.Ytkjmbnficdilhaa
open Go.RowKit Rf Mem Bv Crc Str
attribute [local go_sem ↓] run_max2 run_min2
theorem open_close (bs : List (BitVec 8)) : openV (Crc.close bs) = (bs, 0) := by
  unfold openV
  have hl : (Crc.close bs).length = bs.length + 2 := by simp [Crc.close]
  rw [if_neg (by omega), hl, Nat.add_sub_cancel, show (Crc.close bs).take bs.length = bs by simp [Crc.close], if_pos rfl]
theorem Open_c (v : Value) (bs : List (BitVec 8)) (w : World) (hs : SliceAt w 1 v bs.length (u8s bs)) (hl : bs.length ≤ 140737488355328) :
    Calls Try.prog 22 #[v] w fun e w' => ∃ v', e = .returned (.tuple #[v', .int .i64 (openV bs).2]) ∧ w'.ownsRow w.heap.size 5 1 v' (openV bs).1.length (u8s (openV bs).1) ∧ Below w.heap.size w w' := by
  by_cases h : bs.length < 2
  · refine (Open_short v bs w hs h).mono ?_
    rintro e w' ⟨rfl, rfl⟩
    have : openV bs = ([], 40) := by unfold openV; rw [if_pos h]
    rw [this]
    exact ⟨_, rfl, own_nil _ _ _ _, Below.refl _ _⟩
  · exact Open_long v bs (bs.length - 2) w hs (by omega) hl
theorem refOpen_c (v : Value) (bs : List (BitVec 8)) (w : World) (hs : SliceAt w 1 v bs.length (u8s bs)) (hl : bs.length ≤ 140737488355320) :
    Calls Try.prog 24 #[v] w fun e w' => ∃ v', e = .returned (.tuple #[v', .int .i64 (openV bs).2]) ∧ w'.ownsRow w.heap.size 5 1 v' (openV bs).1.length (u8s (openV bs).1) ∧ Below w.heap.size w w' := by
  by_cases h : bs.length < 2
  · refine (refOpen_short v bs w hs h).mono ?_
    rintro e w' ⟨rfl, rfl⟩
    have : openV bs = ([], 40) := by unfold openV; rw [if_pos h]
    rw [this]
    exact ⟨_, rfl, own_nil _ _ _ _, Below.refl _ _⟩
  · exact refOpen_long v bs (bs.length - 2) w hs (by omega) hl
/-- what is taken out of bytes: kind, number, payload, error -/
def takeV (b : List (BitVec 8)) : BitVec 8 × BitVec 8 × List (BitVec 8) × Int :=
  if b.length < 5 then (0#8, 0#8, [], 40) else
  if (openV b).2 ≠ 0 then (0#8, 0#8, [], (openV b).2) else
  match (openV b).1 with
  | k :: s :: n :: p => if rightF k.toNat p.length && ((n.toNat : Int) == (p.length : Int)) then (k, s, p, 0) else (0#8, 0#8, [], 41)
  | _ => (0#8, 0#8, [], 41)
theorem own_some {w : World} {base e n : Nat} {A : Option Addr} {c : Nat} {xs : List Value} (h : w.ownsRow base e 1 (.slice A n c) n xs) (hn : 0 < n) : ∃ g, A = some ⟨g, 0, none⟩ := by
  rcases h.2 with ⟨_, h0⟩ | ⟨g, cap, cur, hv, _⟩
  · omega
  · obtain ⟨rfl, _, _⟩ := Value.slice.inj hv; exact ⟨g, rfl⟩
theorem cell_far {W : World} {g i : Nat} {u : Value} (h : W.cell? ⟨g, i, none⟩ = some u) {p : Addr} (hp : g ≠ p.block) (x : Value) : (W.setCell p x).cell? ⟨g, i, none⟩ = some u :=
  (World.cell?_of_block (a := ⟨g, i, none⟩) (Below.heap_setCell W p x g hp)).trans h
theorem Right_g (k s : Int) (v : Value) (p : List (BitVec 8)) (r : Bool) (w : World) (hr : rightF k p.length = r) (hs : SliceAt w 1 v p.length (u8s p)) :
    Calls Try.prog 11 #[fv k s v] w fun e w' => e = .returned (.bool r) ∧ Below w.heap.size w w' := by subst hr; exact Right_c k s v p w hs
theorem refRight_g (k s : Int) (v : Value) (p : List (BitVec 8)) (r : Bool) (w : World) (hr : rightF k p.length = r) (hs : SliceAt w 1 v p.length (u8s p)) :
    Calls Try.prog 12 #[fv k s v] w fun e w' => e = .returned (.bool r) ∧ Below w.heap.size w w' := by subst hr; exact refRight_c k s v p w hs
theorem own_vb {v : Value} {q : Nat} (h : vblock v = some q) : v.ownBlock = some q := by
  unfold vblock at h
  split at h
  · exact h
  · cases h
theorem openV_len {b : List (BitVec 8)} (h : (openV b).2 = 0) : (openV b).1.length + 2 = b.length := by
  unfold openV at h ⊢
  split at h
  · cases h
  · split at h
    · rename_i h1 h2
      rw [if_neg h1, if_pos h2]
      simp only [List.length_take]; omega
    · cases h
set_option maxHeartbeats 1000000 in
set_option maxRecDepth 100000 in
theorem Take_short (v : Value) (b : List (BitVec 8)) (w : World) (hs : SliceAt w 1 v b.length (u8s b)) (hl : b.length < 5) :
    Calls Try.prog 7 #[v] w fun e w' => Below w.heap.size w w' ∧ e = .returned (.tuple #[fv 0 0 (.slice none 0 0), .int .i64 40]) := by
  have hB := below_new w (.cells #[.int .u8 0, .int .u8 0, .slice none 0 0] 24)
  obtain ⟨A, c, rfl, _⟩ := hs.form
  have q1 : decide ((b.length : Int) < 5) = true := decide_eq_true (by omega)
  clear hs
  have g2 : (w.alloc (.cells #[.int .u8 0, .int .u8 0, .slice none 0 0] 24)).heap[w.heap.size]? = some _ := new_at rfl _
  have d0 := cell_at g2 0
  have d1 := cell_at g2 1
  have d2 := cell_at g2 2
  have e0 := free_at g2 0
  have e1 := free_at g2 1
  have e2 := free_at g2 2
  go_enter Try.func7, Try.ntmps7
  go_wp2_with fail
  refine wp_scope_fwd 0 (by simp only [findLabel]; rfl) ?_
  go_wp2
  go_step3
  go_wp2
  rw [jump_goto]
  go_wp2
  rw [Exit.noGoto_ret]
  exact bodyPost_ret (res_frm2 (t := 2) (u := 3) rfl rfl g2) rfl ⟨hB, rfl⟩
set_option maxHeartbeats 1000000 in
set_option maxRecDepth 100000 in
theorem Take_crc (v : Value) (b : List (BitVec 8)) (w : World) (hs : SliceAt w 1 v b.length (u8s b)) (hl : 5 ≤ b.length) (hl2 : b.length ≤ 140737488355328) (he : (openV b).2 ≠ 0) :
    Calls Try.prog 7 #[v] w fun e w' => Below w.heap.size w w' ∧ e = .returned (.tuple #[fv 0 0 (.slice none 0 0), .int .i64 (openV b).2]) := by
  have hB := below_new w (.cells #[.int .u8 0, .int .u8 0, .slice none 0 0] 24)
  have hs' := hs.later hB
  obtain ⟨A, c, rfl, _⟩ := hs.form
  have q1 : decide ((b.length : Int) < 5) = false := decide_eq_false (by omega)
  have hO := Open_c _ b _ hs' hl2
  generalize (openV b).1 = p at *
  generalize (openV b).2 = er at *
  have HO := Lib.hid hO
  have q2 : (er != 0) = true := by simpa using he
  clear hs hO
  go_enter Try.func7, Try.ntmps7
  go_wp2_with fail
  refine wp_scope_fwd 0 (by simp only [findLabel]; rfl) ?_
  go_wp2_with fail
  refine (HO.out).mono ?_
  rintro e w1 ⟨v1, rfl, ho1, b1⟩
  obtain ⟨A1, c1, rfl, _⟩ := (sliceAt_of_own ho1).form
  have g2 := below_at b1 (k := w.heap.size) (o := .cells #[.int .u8 0, .int .u8 0, .slice none 0 0] 24) (new_at rfl _) (by simp)
  have d0 := cell_at g2 0
  have d1 := cell_at g2 1
  have d2 := cell_at g2 2
  have e0 := free_at g2 0
  have e1 := free_at g2 1
  have e2 := free_at g2 2
  go_wp2
  go_step3
  go_wp2
  rw [jump_goto]
  go_wp2
  rw [Exit.noGoto_ret]
  refine bodyPost_ret (res_frm2 (t := 2) (u := 3) rfl rfl (set_at (set_at (set_at g2 0 _) 1 _) 2 _)) rfl ⟨?_, rfl⟩
  exact (((below_step hB b1).setCell (by simp) _).setCell (by simp) _).setCell (by simp) _
set_option maxHeartbeats 4000000 in
set_option maxRecDepth 100000 in
theorem Take_form (v : Value) (b : List (BitVec 8)) (k s n : BitVec 8) (p : List (BitVec 8)) (w : World) (hs : SliceAt w 1 v b.length (u8s b)) (hl : 5 ≤ b.length) (hl2 : b.length ≤ 140737488355328) (he : openV b = (k :: s :: n :: p, 0)) :
    Calls Try.prog 7 #[v] w fun e w' => Below w.heap.size w w' ∧ 
      if rightF k.toNat p.length && ((n.toNat : Int) == (p.length : Int)) then ∃ A c, e = .returned (.tuple #[fv k.toNat s.toNat (.slice A p.length c), .int .i64 0]) ∧ SliceAt w' 1 (.slice A p.length c) p.length (u8s p)
      else e = .returned (.tuple #[fv 0 0 (.slice none 0 0), .int .i64 41]) := by
  have hB := below_new w (.cells #[.int .u8 0, .int .u8 0, .slice none 0 0] 24)
  have hs' := hs.later hB
  obtain ⟨A, c, rfl, _⟩ := hs.form
  have q1 : decide ((b.length : Int) < 5) = false := decide_eq_false (by omega)
  have hO := Open_c _ b _ hs' hl2
  have hpl := openV_len (b := b) (by rw [he])
  rw [he] at hO hpl
  have hpl2 : p.length ≤ 140737488355328 := by simp at hpl; omega
  have HO := Lib.hid hO
  clear hs hO he hpl
  go_enter Try.func7, Try.ntmps7
  go_wp2_with fail
  refine wp_scope_fwd 0 (by simp only [findLabel]; rfl) ?_
  go_wp2_with fail
  refine (HO.out).mono ?_
  rintro e w1 ⟨v1, rfl, ho1, b1⟩
  obtain ⟨A1, c1, rfl, c2, _⟩ := (sliceAt_of_own ho1).form
  obtain ⟨g, rfl⟩ := own_some ho1 (by simp)
  have S1 : SliceAt w1 1 (.slice (some ⟨g, 0, none⟩) (p.length + 3) c1) (p.length + 3) (u8s (k :: s :: n :: p)) := sliceAt_of_own ho1
  have hgb := own_base ho1 (g := g) rfl
  simp only [World.size_alloc] at hgb
  have x0 : w1.cell? ⟨g, 0, none⟩ = some (.int .u8 (k.toNat : Int)) := ho1.cellAt 0 (by simp)
  have x1 : w1.cell? ⟨g, 1, none⟩ = some (.int .u8 (s.toNat : Int)) := ho1.cellAt 1 (by simp)
  have x2 : w1.cell? ⟨g, 2, none⟩ = some (.int .u8 (n.toNat : Int)) := ho1.cellAt 2 (by simp)
  have hsub := S1.sub (lo := 3) (hi := p.length + 3) (by omega) (Nat.le_refl _)
  rw [Nat.add_sub_cancel, show List.take (p.length * 1) (List.drop (3 * 1) (u8s (k :: s :: n :: p))) = u8s p from by simp only [u8s, List.map_cons, Nat.mul_one, Nat.one_mul, List.drop_succ_cons, List.drop_zero]; exact List.take_of_length_le (by simp)] at hsub
  have g2 := below_at b1 (k := w.heap.size) (o := .cells #[.int .u8 0, .int .u8 0, .slice none 0 0] 24) (new_at rfl _) (by simp)
  have d0 := cell_at g2 0
  have d1 := cell_at g2 1
  have d2 := cell_at g2 2
  have e0 := free_at g2 0
  have e1 := free_at g2 1
  have e2 := free_at g2 2
  have c2' : p.length + 3 ≤ c1 := c2
  change Hid _ at HO
  clear HO c2 ho1
  obtain ⟨L, hL⟩ : ∃ L, p.length + 3 = L := ⟨_, rfl⟩
  rw [show (k :: s :: n :: p).length = L from hL]
  have i0 : 0 < L := by omega
  have i1 : (1 : Int) < (L : Int) := by omega
  have i2 : (2 : Int) < (L : Int) := by omega
  have i3 : (3 : Int) ≤ (L : Int) := by omega
  have i4 : (L : Int) ≤ (c1 : Int) := by omega
  have hcase : (c1 = 3 ∧ SliceAt w1 1 (.slice (some ⟨g, 0, none⟩) (L - 3) 0) p.length (u8s p)) ∨ (¬ c1 = 3 ∧ SliceAt w1 1 (.slice (some ⟨g, 3, none⟩) (L - 3) (c1 - 3)) p.length (u8s p)) := by
    have hp3 : L - 3 = p.length := by omega
    rw [hp3]
    by_cases hc3 : c1 = 3
    · left; rw [if_pos hc3] at hsub; rw [hc3] at hsub; exact ⟨hc3, hsub⟩
    · right; rw [if_neg hc3] at hsub; exact ⟨hc3, hsub⟩
  have HL := Lib.hid hL
  clear hL hsub
  have hgn : g ≠ w.heap.size := by omega
  rcases hcase with ⟨rfl, hs3⟩ | ⟨hc3, hs3⟩
  all_goals
    go_wp2_with fail
    go_region_held3 (fun w' => w'.cell? ⟨g, 0, none⟩ = some (.int .u8 (k.toNat : Int)) ∧ w'.cell? ⟨g, 1, none⟩ = some (.int .u8 (s.toNat : Int))) (first | exact ⟨x0, x1⟩ | exact ⟨cell_far (cell_far (cell_far y0 hgn _) hgn _) hgn _, cell_far (cell_far (cell_far y1 hgn _) hgn _) hgn _⟩ | exact ⟨y0, y1⟩)
      (first | (go_at_call 23; refine (Clone_c _ p _ (hs3.later (Below.refl _ _).drew) hpl2).mono ?_; rintro e w2 ⟨v2, rfl, ho2, b2⟩; have y0 := (b2.cell (p := ⟨g, 0, none⟩) hgb.2).trans x0; have y1 := (b2.cell (p := ⟨g, 1, none⟩) hgb.2).trans x1; have y2 := (b2.cell (p := ⟨g, 2, none⟩) hgb.2).trans x2; have g3 := below_at b2 g2 (by have := b1.size; simp at this; simp; omega); have e3 := free_at g3 0; have e4 := free_at g3 1; have e5 := free_at g3 2; have k3 := cell_at g3 0; have k4 := cell_at g3 1; have k5 := cell_at g3 2; obtain ⟨A2, c2, rfl, _⟩ := (sliceAt_of_own ho2).form))
    have V : FVar (((w2.setCell ⟨w.heap.size, 0, none⟩ (.int .u8 (k.toNat : Int))).setCell ⟨w.heap.size, 1, none⟩ (.int .u8 (s.toNat : Int))).setCell ⟨w.heap.size, 2, none⟩ (.slice A2 p.length c2)) w.heap.size k.toNat s.toNat (.slice A2 p.length c2) p :=
      ⟨set_at (set_at (set_at g3 0 _) 1 _) 2 _, sliceAt_of_own (own_set (own_set (own_set ho2 (show w.heap.size < w1.heap.size by omega) _) (show w.heap.size < w1.heap.size by omega) _) (show w.heap.size < w1.heap.size by omega) _)⟩
    have B3 : Below w.heap.size w (((w2.setCell ⟨w.heap.size, 0, none⟩ (.int .u8 (k.toNat : Int))).setCell ⟨w.heap.size, 1, none⟩ (.int .u8 (s.toNat : Int))).setCell ⟨w.heap.size, 2, none⟩ (.slice A2 p.length c2)) :=
      (((((below_step hB b1).drew).trans (b2.mono (show w.heap.size ≤ w1.heap.size by omega))).setCell (by simp) _).setCell (by simp) _).setCell (by simp) _
    have z2 := cell_far (cell_far (cell_far y2 hgn (p := ⟨w.heap.size, 0, none⟩) (.int .u8 (k.toNat : Int))) hgn (p := ⟨w.heap.size, 1, none⟩) (.int .u8 (s.toNat : Int))) hgn (p := ⟨w.heap.size, 2, none⟩) (.slice A2 p.length c2)
    have hA2 : ∀ q, VB (.slice A2 p.length c2) p.length q → q ≠ w.heap.size := fun q hq e => by
      have := (own_base ho2 (own_vb hq.2)).1
      have h2 : w1.heap.size ≤ q := this
      omega
    have HA2 := Lib.hid hA2
    clear hA2
    clear x0 x1 x2 y0 y1 y2 g2 g3 d0 d1 d2 e0 e1 e2 e3 e4 e5 k3 k4 k5 ho2
    generalize (((w2.setCell ⟨w.heap.size, 0, none⟩ (.int .u8 (k.toNat : Int))).setCell ⟨w.heap.size, 1, none⟩ (.int .u8 (s.toNat : Int))).setCell ⟨w.heap.size, 2, none⟩ (.slice A2 p.length c2)) = W3 at *
    have x0 := V.c0
    have x1 := V.c1
    have x2 := V.c2
    have hgs : g < W3.heap.size := lt_of_cell (p := ⟨g, 2, none⟩) z2
    have VD := V.later (Below.refl _ _).drew
    have hn8 : (n.toNat : Int) < 256 := by have := n.isLt; omega
    have hwn : IntKind.i64.wrap (n.toNat : Int) = (n.toNat : Int) := IntWalk.i64_in _ (by have := n.isLt; omega)
    rcases hr : rightF k.toNat p.length with _ | _
    · have HR := Lib.hid hr
      clear hr
      go_wp2_with fail
      refine wp_region_held_drew (S := (fun w' => w'.cell? ⟨w.heap.size, 0, none⟩ = some (.int .u8 (k.toNat : Int)) ∧ w'.cell? ⟨w.heap.size, 1, none⟩ = some (.int .u8 (s.toNat : Int)) ∧ w'.cell? ⟨w.heap.size, 2, none⟩ = some (.slice A2 p.length c2))) (by kernel_rfl) ?_ (fun hHeld => ?_)
      · exact ⟨x0, x1, x2⟩
      refine wpAnyH_take (i := 0) (v := ?_) rfl (by kernel_rfl) (by kernel_rfl) (by kernel_rfl) (fun _ _ _ h => h) (Or.inl ⟨by rfl, ?_⟩) (by assumption) ?_
      rotate_left
      · intro w hSw
        try dsimp only at hSw
        go_simp
        try with_reducible rfl
      simp only [List.getElem_toArray, List.getElem_cons_succ, List.getElem_cons_zero, Act.put, List.setIfInBounds_toArray, List.set_cons_zero, List.set_cons_succ]
      refine wpAnyH_ready (rs := [1]) (by kernel_rfl) (by simp) ?_
      refine AllReadyH.cons rfl (fun K hK => ?_) AllReadyH.nil
      go_simp
      refine (Right_g _ _ _ p false _ HR.out VD.sl).mono ?_
      rintro e w4 ⟨rfl, b4⟩
      refine hK.out _ _ ?_ (fun hHeld => ?_)
      · exact ⟨(VD.later b4).c0, (VD.later b4).c1, (VD.later b4).c2⟩
      clear hK K
      refine wpAnyH_take (i := 2) (v := ?_) rfl (by kernel_rfl) (by kernel_rfl) (by kernel_rfl) (fun _ _ _ h => h) (Or.inl ⟨by rfl, ?_⟩) (by assumption) ?_
      rotate_left
      · intro w hSw
        try dsimp only at hSw
        go_simp
        try with_reducible rfl
      simp only [List.getElem_toArray, List.getElem_cons_succ, List.getElem_cons_zero, Act.put, List.setIfInBounds_toArray, List.set_cons_zero, List.set_cons_succ]
      refine wpAnyH_take (i := 3) (v := undef) rfl (by kernel_rfl) (by kernel_rfl) (by kernel_rfl) (fun _ _ _ h => h) (Or.inr ⟨by kernel_rfl, rfl⟩) (by assumption) ?_
      refine wpAnyH_take (i := 4) (v := undef) rfl (by kernel_rfl) (by kernel_rfl) (by kernel_rfl) (fun _ _ _ h => h) (Or.inr ⟨by kernel_rfl, rfl⟩) (by assumption) ?_
      refine wpAnyH_take (i := 5) (v := undef) rfl (by kernel_rfl) (by kernel_rfl) (by kernel_rfl) (fun _ _ _ h => h) (Or.inr ⟨by kernel_rfl, rfl⟩) (by assumption) ?_
      refine wpAnyH_take (i := 6) (v := undef) rfl (by kernel_rfl) (by kernel_rfl) (by kernel_rfl) (fun _ _ _ h => h) (Or.inr ⟨by kernel_rfl, rfl⟩) (by assumption) ?_
      refine wpAnyH_take (i := 7) (v := undef) rfl (by kernel_rfl) (by kernel_rfl) (by kernel_rfl) (fun _ _ _ h => h) (Or.inr ⟨by kernel_rfl, rfl⟩) (by assumption) ?_
      refine wpAnyH_take (i := 8) (v := undef) rfl (by kernel_rfl) (by kernel_rfl) (by kernel_rfl) (fun _ _ _ h => h) (Or.inr ⟨by kernel_rfl, rfl⟩) (by assumption) ?_
      refine wpAnyH_take (i := 9) (v := undef) rfl (by kernel_rfl) (by kernel_rfl) (by kernel_rfl) (fun _ _ _ h => h) (Or.inr ⟨by kernel_rfl, rfl⟩) (by assumption) ?_
      refine wpAnyH_take (i := 10) (v := undef) rfl (by kernel_rfl) (by kernel_rfl) (by kernel_rfl) (fun _ _ _ h => h) (Or.inr ⟨by kernel_rfl, rfl⟩) (by assumption) ?_
      simp only [List.getElem_toArray, List.getElem_cons_succ, List.getElem_cons_zero, Act.put, List.setIfInBounds_toArray, List.set_cons_zero, List.set_cons_succ]
      refine wpAnyH_take (i := 11) (v := ?_) rfl (by kernel_rfl) (by kernel_rfl) (by kernel_rfl) (fun _ _ _ h => h) (Or.inl ⟨by rfl, ?_⟩) (by assumption) ?_
      rotate_left
      · intro w hSw
        try dsimp only at hSw
        go_simp
        try with_reducible rfl
      simp only [List.getElem_toArray, List.getElem_cons_succ, List.getElem_cons_zero, Act.put, List.setIfInBounds_toArray, List.set_cons_zero, List.set_cons_succ]
      refine wpAnyH_done (by kernel_rfl) ?_ _
      have V4 := VD.later b4
      have d0 := V4.c0
      have d1 := V4.c1
      have d2 := V4.c2
      have e0 := free_at V4.at_ 0
      have e1 := free_at V4.at_ 1
      have e2 := free_at V4.at_ 2
      clear x0 x1 x2 z2
      go_wp2
      go_step3
      go_wp2
      rw [jump_ret]
      refine bodyPost_ret (res_frm2 (t := 2) (u := 3) rfl rfl (set_at (set_at (set_at V4.at_ 0 _) 1 _) 2 _)) rfl ⟨?_, ?_⟩
      · exact ((((B3.drew).trans (b4.mono B3.size)).setCell (by simp) _).setCell (by simp) _).setCell (by simp) _
      · rw [HR.out]; simp
    · have HR := Lib.hid hr
      clear hr
      have hnp : ((n.toNat : Int) == (p.length : Int)) = true ∨ ((n.toNat : Int) == (p.length : Int)) = false := by cases ((n.toNat : Int) == (p.length : Int)) <;> simp
      rcases hnp with hnp | hnp
      all_goals have HNP := Lib.hid hnp
      · go_wp2_with fail
        go_region_held3 (fun w' => w'.cell? ⟨w.heap.size, 0, none⟩ = some (.int .u8 (k.toNat : Int)) ∧ w'.cell? ⟨w.heap.size, 1, none⟩ = some (.int .u8 (s.toNat : Int)) ∧ w'.cell? ⟨w.heap.size, 2, none⟩ = some (.slice A2 p.length c2) ∧ w'.cell? ⟨g, 2, none⟩ = some (.int .u8 (n.toNat : Int)))
          (first | exact ⟨V4.c0, V4.c1, V4.c2, z4⟩ | exact ⟨x0, x1, x2, z2⟩)
          (first | (go_at_call 11; refine (Right_g _ _ _ p true _ HR.out VD.sl).mono ?_; rintro e w4 ⟨rfl, b4⟩; have V4 := VD.later b4; have z4 := (b4.cell (p := ⟨g, 2, none⟩) hgs).trans z2))
        have d0 := V4.c0
        have d1 := V4.c1
        have d2 := V4.c2
        have e0 := free_at V4.at_ 0
        have e1 := free_at V4.at_ 1
        have e2 := free_at V4.at_ 2
        clear x0 x1 x2 z2 z4
        go_wp2
        rw [jump_ret]
        refine bodyPost_ret (res_frm2 (t := 2) (u := 3) rfl rfl (set_at (set_at (set_at V4.at_ 0 _) 1 _) 2 _)) rfl ⟨?_, ?_⟩
        · exact ((((B3.drew).trans (b4.mono B3.size)).setCell (by simp) _).setCell (by simp) _).setCell (by simp) _
        · rw [HR.out, HNP.out, Bool.and_self, if_pos rfl]
          refine ⟨A2, c2, rfl, slice_keep V4.sl ((((Keep.refl (fun q => q ≠ w.heap.size) w4).setCell (fun _ h => h rfl) _).setCell (fun _ h => h rfl) _).setCell (fun _ h => h rfl) _) HA2.out⟩
      · go_wp2_with fail
        go_region_held3 (fun w' => w'.cell? ⟨w.heap.size, 0, none⟩ = some (.int .u8 (k.toNat : Int)) ∧ w'.cell? ⟨w.heap.size, 1, none⟩ = some (.int .u8 (s.toNat : Int)) ∧ w'.cell? ⟨w.heap.size, 2, none⟩ = some (.slice A2 p.length c2) ∧ w'.cell? ⟨g, 2, none⟩ = some (.int .u8 (n.toNat : Int)))
          (first | exact ⟨V4.c0, V4.c1, V4.c2, z4⟩ | exact ⟨x0, x1, x2, z2⟩)
          (first | (go_at_call 11; refine (Right_g _ _ _ p true _ HR.out VD.sl).mono ?_; rintro e w4 ⟨rfl, b4⟩; have V4 := VD.later b4; have z4 := (b4.cell (p := ⟨g, 2, none⟩) hgs).trans z2))
        have d0 := V4.c0
        have d1 := V4.c1
        have d2 := V4.c2
        have e0 := free_at V4.at_ 0
        have e1 := free_at V4.at_ 1
        have e2 := free_at V4.at_ 2
        clear x0 x1 x2 z2 z4
        go_wp2
        go_step3
        go_wp2
        rw [jump_ret]
        refine bodyPost_ret (res_frm2 (t := 2) (u := 3) rfl rfl (set_at (set_at (set_at V4.at_ 0 _) 1 _) 2 _)) rfl ⟨?_, ?_⟩
        · exact ((((B3.drew).trans (b4.mono B3.size)).setCell (by simp) _).setCell (by simp) _).setCell (by simp) _
        · rw [HR.out, HNP.out]; simp
end Go.Proofs.Ytkjmbnficdilhaa
