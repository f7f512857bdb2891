/- Contracts of functions and words for memory. Nothing that was there is turned. -/
import Derived.Test.YtlanlkpamnoekaaDoorZT00
import Derived.BigFrameIn
import Derived.Deep.RegionWith
import Derived.StillTailTactics
import Derived.Lib.Hide
set_option linter.unusedSimpArgs false
set_option linter.unusedVariables false
namespace Go.Proofs.YtlanlkpamnoekaaDoor
open Go.RowKit Rf Mem Bv Crc Str
attribute [local go_sem ↓] run_max2 run_min2
theorem own_set {w : World} {base e sz n : Nat} {v : Value} {xs : List Value} (h : w.ownsRow base e sz v n xs) {p : Addr} (hp : p.block < base) (u : Value) : (w.setCell p u).ownsRow base e sz v n xs :=
  own_later h (fun g hg => Below.heap_setCell w p u g (by have := (own_base h hg).1; omega))
theorem ret_bool {a b : Bool} (h : a = b) : Ending.returned (.bool a) = .returned (.bool b) := by rw [h]
def newer (n was : Int) : Bool := decide (0 < (n - was) % 256 ∧ (n - was) % 256 < 128)
theorem i8_pos (x : Int) (h0 : 0 ≤ x) (h1 : x < 256) : 0 < IntKind.i8.wrap x ↔ 0 < x ∧ x < 128 := by
  simp [IntKind.wrap, IntKind.signed, IntKind.bits]
  split <;> omega
theorem Newer_c (n was : Int) (w : World) (h1 : 0 ≤ n) (h2 : n < 256) (h3 : 0 ≤ was) (h4 : was < 256) : Calls Tryd.prog 33 #[.int .u8 n, .int .u8 was] w fun e w' => e = .returned (.bool (newer n was)) ∧ w = w' := by
  go_enter Tryd.func33, Tryd.ntmps33
  go_wp2
  go_ret
  refine ⟨ret_bool ?_, rfl⟩
  unfold newer
  rw [Bool.eq_iff_iff, decide_eq_true_eq, decide_eq_true_eq]
  exact i8_pos _ (by omega) (by omega)
theorem refNewer_c (n was : Int) (w : World) (h1 : 0 ≤ n) (h2 : n < 256) (h3 : 0 ≤ was) (h4 : was < 256) : Calls Tryd.prog 30 #[.int .u8 n, .int .u8 was] w fun e w' => e = .returned (.bool (newer n was)) ∧ w = w' := by
  obtain ⟨d, hd⟩ : ∃ d, n - was = d := ⟨_, rfl⟩
  have hd1 : -256 < d := by omega
  have hd2 : d < 256 := by omega
  unfold newer
  rw [hd]
  have hcase : (decide (1 ≤ d % 256) = false ∧ false = decide (0 < d % 256 ∧ d % 256 < 128)) ∨ (decide (1 ≤ d % 256) = true ∧ decide (d % 256 ≤ 127) = decide (0 < d % 256 ∧ d % 256 < 128)) := by
    by_cases h : 1 ≤ d % 256
    · refine .inr ⟨decide_eq_true h, ?_⟩
      rw [Bool.eq_iff_iff, decide_eq_true_eq, decide_eq_true_eq]; omega
    · exact .inl ⟨decide_eq_false h, (decide_eq_false (by omega)).symm⟩
  rcases hcase with ⟨q1, q2⟩ | ⟨q1, q2⟩
  all_goals
    have Q2 := Lib.hid q2
    clear q2
    go_enter Tryd.func30, Tryd.ntmps30
    go_wp2
    go_ret
    exact ⟨ret_bool Q2.out, rfl⟩
/-- frames of the same kind, number, payload -/
def sameF (k1 s1 : Int) (p1 : List (BitVec 8)) (k2 s2 : Int) (p2 : List (BitVec 8)) : Bool := (k1 == k2) && ((s1 == s2) && decide (p1 = p2))
theorem sameF_refl (k s : Int) (p : List (BitVec 8)) : sameF k s p k s p = true := by unfold sameF; simp
theorem below_two (w : World) (o o2 : Obj) : Below w.heap.size w ((w.alloc o).alloc o2) := below_step (below_new w o) (below_new _ _)
set_option maxHeartbeats 1000000 in
set_option maxRecDepth 100000 in
theorem refSame_c (k1 s1 k2 s2 : Int) (v u : Value) (p1 p2 : List (BitVec 8)) (w : World) (ha : SliceAt w 1 v p1.length (u8s p1)) (hb : SliceAt w 1 u p2.length (u8s p2)) :
    Calls Tryd.prog 13 #[fv k1 s1 v, fv k2 s2 u] w fun e w' => e = .returned (.bool (sameF k1 s1 p1 k2 s2 p2)) ∧ Below w.heap.size w w' := by
  have hB := below_two w (.cells #[.int .u8 k1, .int .u8 s1, v] 41) (.cells #[.int .u8 k2, .int .u8 s2, u] 41)
  have ha' := ha.later hB
  have hb' := hb.later hB
  have c1 := conv_str (P := Tryd.prog) (dst := 9) ha' Tryd.underlying36 Tryd.underlying5 Tryd.underlying9
  have c2 := conv_str (P := Tryd.prog) (dst := 9) hb' Tryd.underlying36 Tryd.underlying5 Tryd.underlying9
  have c3 := str_beq p1 p2
  obtain ⟨Ax, c, rfl, _⟩ := ha.form
  obtain ⟨Bx, d, rfl, _⟩ := hb.form
  clear ha hb
  unfold sameF
  rcases q1 : (k1 == k2) with _ | _
  · go_enter Tryd.func13, Tryd.ntmps13
    go_wp2
    go_ret
    exact ⟨rfl, hB⟩
  · rcases q2 : (s1 == s2) with _ | _
    · go_enter Tryd.func13, Tryd.ntmps13
      go_wp2
      go_ret
      exact ⟨rfl, hB⟩
    · go_enter Tryd.func13, Tryd.ntmps13
      go_wp2
      go_ret
      exact ⟨rfl, hB⟩
end Go.Proofs.YtlanlkpamnoekaaDoor
namespace Go.Proofs.YtlanlkpamnoekaaDoor
open Go.RowKit Rf Mem Bv Crc Str
attribute [local go_sem ↓] run_max2 run_min2
attribute [local go_sem] Oper.semAt_some
/-- a frame's bytes but for its sum -/
def hb (k s : BitVec 8) (p : List (BitVec 8)) : List (BitVec 8) := k :: s :: BitVec.ofNat 8 p.length :: p
/-- the block that a slice lies in -/
def vblock : Value → Option Nat
  | .slice (some a) _ _ => some a.block
  | _ => none
/-- block q holds elements of the slice v, of n -/
def VB (v : Value) (n q : Nat) : Prop := 0 < n ∧ vblock v = some q
theorem slice_keep {S : Nat → Prop} {W W' : World} {sz n : Nat} {v : Value} {cs : List Value} (h : SliceAt W sz v n cs) (hk : Keep S W W') (hS : ∀ q, VB v n q → S q) : SliceAt W' sz v n cs := by
  obtain ⟨A, c, rfl, h1, h2, h3, h4⟩ := h
  refine ⟨A, c, rfl, h1, h2, h3, ?_⟩
  rcases Nat.eq_zero_or_pos n with h0 | h0
  · exact .inl h0
  rcases h4 with h4 | ⟨b, off, rfl, hlt, hc⟩
  · exact .inl h4
  · exact .inr ⟨b, off, rfl, Nat.lt_of_lt_of_le hlt hk.size, fun i u hu => (World.cell?_of_block (a := ⟨b, off + i, none⟩) (hk.block b hlt (hS b ⟨h0, rfl⟩))).trans (hc i u hu)⟩
theorem vblock_lt {W : World} {sz n : Nat} {v : Value} {cs : List Value} (h : SliceAt W sz v n cs) {q : Nat} (hq : VB v n q) : q < W.heap.size := by
  obtain ⟨hn, hq⟩ := hq
  obtain ⟨b, off, c, rfl, _, _, hlt, _⟩ := h.pos hn
  cases hq; exact hlt
theorem FVar.keep {S : Nat → Prop} {W W' : World} {g : Nat} {k s : Int} {v : Value} {p : List (BitVec 8)} (h : FVar W g k s v p) (hk : Keep S W W') (hg : S g) (hS : ∀ q, VB v p.length q → S q) : FVar W' g k s v p :=
  ⟨hk.at_ h.at_ hg, slice_keep h.sl hk hS⟩
end Go.Proofs.YtlanlkpamnoekaaDoor
namespace Go.Proofs.YtlanlkpamnoekaaDoor
open Go.RowKit Rf Mem Bv Crc Str
attribute [local go_sem ↓] run_max2 run_min2
attribute [local go_sem] Oper.semAt_some
set_option maxHeartbeats 1000000 in
set_option maxRecDepth 100000 in
theorem refPut_good (k s : BitVec 8) (v : Value) (p : List (BitVec 8)) (w : World) (hs : SliceAt w 1 v p.length (u8s p)) (h : rightF k.toNat p.length = true) :
    Calls Tryd.prog 49 #[fv k.toNat s.toNat v] w fun e w' => Below w.heap.size w w' ∧
      ∃ v', e = .returned (.tuple #[v', .int .i64 0]) ∧ w'.ownsRow w.heap.size 5 1 v' (Crc.close (hb k s p)).length (u8s (Crc.close (hb k s p))) := by
  obtain ⟨i0, hi, hz0, hz1, hz2⟩ := info_parts info_u8
  have hl : p.length ≤ 59 := by unfold rightF at h; simp at h; exact h.2
  have V := FVar.new (k := k.toNat) (s := s.toNat) hs
  have hB := below_new w (.cells #[.int .u8 (k.toNat : Int), .int .u8 (s.toNat : Int), v] 41)
  obtain ⟨A, c, rfl, _⟩ := hs.form
  have hw8 : IntKind.u8.wrap (p.length : Int) = (p.length : Int) := Bv.wrap_small .u8 rfl (by omega) (by simp [IntKind.bits]; omega)
  clear hs
  go_enter Tryd.func49, Tryd.ntmps49
  go_wp2_with fail
  refine (refRight_c _ _ _ p _ V.sl).mono ?_
  rintro e w1 ⟨rfl, b1⟩
  rw [h]
  replace V := V.later b1
  have x0 := V.c0
  have x1 := V.c1
  have x2 := V.c2
  have hbn := below_new w1 (.cells #[.int .u8 (k.toNat : Int), .int .u8 (s.toNat : Int), .int .u8 (p.length : Int)] 5)
  have x3 := (V.later hbn).c2
  have hsrc := (V.later hbn).sl
  have hown : (w1.alloc (.cells #[.int .u8 (k.toNat : Int), .int .u8 (s.toNat : Int), .int .u8 (p.length : Int)] 5)).ownsRow w1.heap.size 5 1 (.slice (some ⟨w1.heap.size, 0, none⟩) 3 3) 3 [.int .u8 (k.toNat : Int), .int .u8 (s.toNat : Int), .int .u8 (p.length : Int)] :=
    ⟨by simp, .inr ⟨w1.heap.size, 3, _, rfl, Nat.le_refl _, new_at rfl _, by simp, by simp [maxLen], by simp, by simp⟩⟩
  have el : (hb k s p).length = 3 + p.length := by simp [hb]; omega
  have eu : u8s (hb k s p) = [.int .u8 (k.toNat : Int), .int .u8 (s.toNat : Int), .int .u8 (p.length : Int)] ++ u8s p := by
    unfold hb u8s
    rw [List.map_cons, List.map_cons, List.map_cons, BitVec.toNat_ofNat, Nat.mod_eq_of_lt (show p.length < 2 ^ 8 by omega)]; rfl
  have EL := Lib.hid el
  have EU := Lib.hid eu
  have ecl : (Crc.close (hb k s p)).length = (hb k s p).length + 2 := by simp [Crc.close]
  have ECL := Lib.hid ecl
  clear el eu ecl
  go_wp2_with (at_builtin; refine wpList_append_src (by rfl) (.tmp 15) (.tmp 17) _ (by rfl) w1.heap.size 5 i0 _ 1 1 Tryd.underlying36 hi hz0 hz1 hz2 rfl (by omega) (.slice (some ⟨w1.heap.size, 0, none⟩) 3 3) 3 [.int .u8 (k.toNat : Int), .int .u8 (s.toNat : Int), .int .u8 (p.length : Int)] (by rfl) hown (.slice A p.length c) p.length (u8s p) (by rfl) hsrc (u8s_one p) (by simp only [maxLen]; omega) (by omega) (by simp) ?_; intro v1 w2 ho1 hg1 hw1; obtain ⟨A1, k1, rfl, _, _⟩ := (sliceAt_of_own ho1).form)
  have b2 := below_own (hbn) hg1 (by simp) (by intro g hg; cases hg; exact Nat.le_refl _)
  rw [← EU.out, ← EL.out] at ho1
  rw [← EL.out]
  refine (refClose_c _ (hb k s p) _ (sliceAt_of_own ho1) (by rw [EL.out]; omega)).mono ?_
  rintro e w3 ⟨v3, rfl, ho3, b3⟩
  go_wp2
  go_ret2
  rw [ECL.out]
  refine ⟨below_step (below_step (below_step hB b1) b2) b3, v3, rfl, own_base_le ho3 ?_⟩
  have := hB.size; have := b1.size; have := b2.size; omega
end Go.Proofs.YtlanlkpamnoekaaDoor
namespace Go.Proofs.YtlanlkpamnoekaaDoor
open List renaming getElem_toArray → zA, getElem_cons_succ → zS, getElem_cons_zero → zZ, setIfInBounds_toArray → zP, set_cons_zero → zQ, set_cons_succ → zR
open Go.RowKit Rf Mem Bv Crc Str
attribute [local go_sem ↓] run_max2 run_min2
theorem open_close (bs : List (BitVec 8)) : openV (Crc.close bs) = (bs, 0) := by
  unfold openV
  have hl : (Crc.close bs).length = bs.length + 2 := by simp [Crc.close]
  rw [if_neg (by omega), hl, Nat.add_sub_cancel, show (Crc.close bs).take bs.length = bs by simp [Crc.close], if_pos rfl]
theorem Open_c (v : Value) (bs : List (BitVec 8)) (w : World) (hs : SliceAt w 1 v bs.length (u8s bs)) (hl : bs.length ≤ 140737488355328) :
    Calls Tryd.prog 50 #[v] w fun e w' => ∃ v', e = .returned (.tuple #[v', .int .i64 (openV bs).2]) ∧ w'.ownsRow w.heap.size 5 1 v' (openV bs).1.length (u8s (openV bs).1) ∧ Below w.heap.size w w' := by
  by_cases h : bs.length < 2
  · refine (Open_short v bs w hs h).mono ?_
    rintro e w' ⟨rfl, rfl⟩
    have : openV bs = ([], 40) := by unfold openV; rw [if_pos h]
    rw [this]
    exact ⟨_, rfl, own_nil _ _ _ _, Below.refl _ _⟩
  · exact Open_long v bs (bs.length - 2) w hs (by omega) hl
theorem refOpen_c (v : Value) (bs : List (BitVec 8)) (w : World) (hs : SliceAt w 1 v bs.length (u8s bs)) (hl : bs.length ≤ 140737488355320) :
    Calls Tryd.prog 47 #[v] w fun e w' => ∃ v', e = .returned (.tuple #[v', .int .i64 (openV bs).2]) ∧ w'.ownsRow w.heap.size 5 1 v' (openV bs).1.length (u8s (openV bs).1) ∧ Below w.heap.size w w' := by
  by_cases h : bs.length < 2
  · refine (refOpen_short v bs w hs h).mono ?_
    rintro e w' ⟨rfl, rfl⟩
    have : openV bs = ([], 40) := by unfold openV; rw [if_pos h]
    rw [this]
    exact ⟨_, rfl, own_nil _ _ _ _, Below.refl _ _⟩
  · exact refOpen_long v bs (bs.length - 2) w hs (by omega) hl
/-- what is taken out of bytes: kind, number, payload, error -/
def takeV (b : List (BitVec 8)) : BitVec 8 × BitVec 8 × List (BitVec 8) × Int :=
  if b.length < 5 then (0#8, 0#8, [], 40) else
  if (openV b).2 ≠ 0 then (0#8, 0#8, [], (openV b).2) else
  match (openV b).1 with
  | k :: s :: n :: p => if rightF k.toNat p.length && ((n.toNat : Int) == (p.length : Int)) then (k, s, p, 0) else (0#8, 0#8, [], 41)
  | _ => (0#8, 0#8, [], 41)
theorem own_some {w : World} {base e n : Nat} {A : Option Addr} {c : Nat} {xs : List Value} (h : w.ownsRow base e 1 (.slice A n c) n xs) (hn : 0 < n) : ∃ g, A = some ⟨g, 0, none⟩ := by
  rcases h.2 with ⟨_, h0⟩ | ⟨g, cap, cur, hv, _⟩
  · omega
  · obtain ⟨rfl, _, _⟩ := Value.slice.inj hv; exact ⟨g, rfl⟩
theorem cell_far {W : World} {g i : Nat} {u : Value} (h : W.cell? ⟨g, i, none⟩ = some u) {p : Addr} (hp : g ≠ p.block) (x : Value) : (W.setCell p x).cell? ⟨g, i, none⟩ = some u :=
  (World.cell?_of_block (a := ⟨g, i, none⟩) (Below.heap_setCell W p x g hp)).trans h
theorem Right_g (k s : Int) (v : Value) (p : List (BitVec 8)) (r : Bool) (w : World) (hr : rightF k p.length = r) (hs : SliceAt w 1 v p.length (u8s p)) :
    Calls Tryd.prog 52 #[fv k s v] w fun e w' => e = .returned (.bool r) ∧ Below w.heap.size w w' := by subst hr; exact Right_c k s v p w hs
theorem refRight_g (k s : Int) (v : Value) (p : List (BitVec 8)) (r : Bool) (w : World) (hr : rightF k p.length = r) (hs : SliceAt w 1 v p.length (u8s p)) :
    Calls Tryd.prog 48 #[fv k s v] w fun e w' => e = .returned (.bool r) ∧ Below w.heap.size w w' := by subst hr; exact refRight_c k s v p w hs
theorem own_vb {v : Value} {q : Nat} (h : vblock v = some q) : v.ownBlock = some q := by
  unfold vblock at h
  split at h
  · exact h
  · cases h
theorem openV_len {b : List (BitVec 8)} (h : (openV b).2 = 0) : (openV b).1.length + 2 = b.length := by
  unfold openV at h ⊢
  split at h
  · cases h
  · split at h
    · rename_i h1 h2
      rw [if_neg h1, if_pos h2]
      simp only [List.length_take]; omega
    · cases h
set_option maxHeartbeats 1000000 in
set_option maxRecDepth 100000 in
theorem Take_short (v : Value) (b : List (BitVec 8)) (w : World) (hs : SliceAt w 1 v b.length (u8s b)) (hl : b.length < 5) :
    Calls Tryd.prog 32 #[v] w fun e w' => Below w.heap.size w w' ∧ e = .returned (.tuple #[fv 0 0 (.slice none 0 0), .int .i64 40]) := by
  have hB := below_new w (.cells #[.int .u8 0, .int .u8 0, .slice none 0 0] 41)
  obtain ⟨A, c, rfl, _⟩ := hs.form
  have q1 : decide ((b.length : Int) < 5) = true := decide_eq_true (by omega)
  clear hs
  have g2 : (w.alloc (.cells #[.int .u8 0, .int .u8 0, .slice none 0 0] 41)).heap[w.heap.size]? = some _ := new_at rfl _
  have d0 := cell_at g2 0
  have d1 := cell_at g2 1
  have d2 := cell_at g2 2
  have e0 := free_at g2 0
  have e1 := free_at g2 1
  have e2 := free_at g2 2
  go_enter Tryd.func32, Tryd.ntmps32
  go_wp2_with fail
  refine wp_scope_fwd 0 (by simp only [findLabel]; rfl) ?_
  go_wp2
  go_step3
  go_wp2
  rw [jump_goto]
  go_wp2
  rw [Exit.noGoto_ret]
  exact bodyPost_ret (res_frm2 (t := 2) (u := 3) rfl rfl g2) rfl ⟨hB, rfl⟩
set_option maxHeartbeats 1000000 in
set_option maxRecDepth 100000 in
theorem Take_crc (v : Value) (b : List (BitVec 8)) (w : World) (hs : SliceAt w 1 v b.length (u8s b)) (hl : 5 ≤ b.length) (hl2 : b.length ≤ 140737488355328) (he : (openV b).2 ≠ 0) :
    Calls Tryd.prog 32 #[v] w fun e w' => Below w.heap.size w w' ∧ e = .returned (.tuple #[fv 0 0 (.slice none 0 0), .int .i64 (openV b).2]) := by
  have hB := below_new w (.cells #[.int .u8 0, .int .u8 0, .slice none 0 0] 41)
  have hs' := hs.later hB
  obtain ⟨A, c, rfl, _⟩ := hs.form
  have q1 : decide ((b.length : Int) < 5) = false := decide_eq_false (by omega)
  have hO := Open_c _ b _ hs' hl2
  generalize (openV b).1 = p at *
  generalize (openV b).2 = er at *
  have HO := Lib.hid hO
  have q2 : (er != 0) = true := by simpa using he
  clear hs hO
  go_enter Tryd.func32, Tryd.ntmps32
  go_wp2_with fail
  refine wp_scope_fwd 0 (by simp only [findLabel]; rfl) ?_
  go_wp2_with fail
  refine (HO.out).mono ?_
  rintro e w1 ⟨v1, rfl, ho1, b1⟩
  obtain ⟨A1, c1, rfl, _⟩ := (sliceAt_of_own ho1).form
  have g2 := below_at b1 (k := w.heap.size) (o := .cells #[.int .u8 0, .int .u8 0, .slice none 0 0] 41) (new_at rfl _) (by simp)
  have d0 := cell_at g2 0
  have d1 := cell_at g2 1
  have d2 := cell_at g2 2
  have e0 := free_at g2 0
  have e1 := free_at g2 1
  have e2 := free_at g2 2
  go_wp2
  go_step3
  go_wp2
  rw [jump_goto]
  go_wp2
  rw [Exit.noGoto_ret]
  refine bodyPost_ret (res_frm2 (t := 2) (u := 3) rfl rfl (set_at (set_at (set_at g2 0 _) 1 _) 2 _)) rfl ⟨?_, rfl⟩
  exact (((below_step hB b1).setCell (by simp) _).setCell (by simp) _).setCell (by simp) _
set_option maxHeartbeats 4000000 in
set_option maxRecDepth 100000 in
theorem Take_form (v : Value) (b : List (BitVec 8)) (k s n : BitVec 8) (p : List (BitVec 8)) (w : World) (hs : SliceAt w 1 v b.length (u8s b)) (hl : 5 ≤ b.length) (hl2 : b.length ≤ 140737488355328) (he : openV b = (k :: s :: n :: p, 0)) :
    Calls Tryd.prog 32 #[v] w fun e w' => Below w.heap.size w w' ∧ 
      if rightF k.toNat p.length && ((n.toNat : Int) == (p.length : Int)) then ∃ A c, e = .returned (.tuple #[fv k.toNat s.toNat (.slice A p.length c), .int .i64 0]) ∧ SliceAt w' 1 (.slice A p.length c) p.length (u8s p)
      else e = .returned (.tuple #[fv 0 0 (.slice none 0 0), .int .i64 41]) := by
  have hB := below_new w (.cells #[.int .u8 0, .int .u8 0, .slice none 0 0] 41)
  have hs' := hs.later hB
  obtain ⟨A, c, rfl, _⟩ := hs.form
  have q1 : decide ((b.length : Int) < 5) = false := decide_eq_false (by omega)
  have hO := Open_c _ b _ hs' hl2
  have hpl := openV_len (b := b) (by rw [he])
  rw [he] at hO hpl
  have hpl2 : p.length ≤ 140737488355328 := by simp at hpl; omega
  have HO := Lib.hid hO
  clear hs hO he hpl
  go_enter Tryd.func32, Tryd.ntmps32
  go_wp2_with fail
  refine wp_scope_fwd 0 (by simp only [findLabel]; rfl) ?_
  go_wp2_with fail
  refine (HO.out).mono ?_
  rintro e w1 ⟨v1, rfl, ho1, b1⟩
  obtain ⟨A1, c1, rfl, c2, _⟩ := (sliceAt_of_own ho1).form
  obtain ⟨g, rfl⟩ := own_some ho1 (by simp)
  have S1 : SliceAt w1 1 (.slice (some ⟨g, 0, none⟩) (p.length + 3) c1) (p.length + 3) (u8s (k :: s :: n :: p)) := sliceAt_of_own ho1
  have hgb := own_base ho1 (g := g) rfl
  simp only [World.size_alloc] at hgb
  have x0 : w1.cell? ⟨g, 0, none⟩ = some (.int .u8 (k.toNat : Int)) := ho1.cellAt 0 (by simp)
  have x1 : w1.cell? ⟨g, 1, none⟩ = some (.int .u8 (s.toNat : Int)) := ho1.cellAt 1 (by simp)
  have x2 : w1.cell? ⟨g, 2, none⟩ = some (.int .u8 (n.toNat : Int)) := ho1.cellAt 2 (by simp)
  have hsub := S1.sub (lo := 3) (hi := p.length + 3) (by omega) (Nat.le_refl _)
  rw [Nat.add_sub_cancel, show List.take (p.length * 1) (List.drop (3 * 1) (u8s (k :: s :: n :: p))) = u8s p from by simp only [u8s, List.map_cons, Nat.mul_one, Nat.one_mul, List.drop_succ_cons, List.drop_zero]; exact List.take_of_length_le (by simp)] at hsub
  have g2 := below_at b1 (k := w.heap.size) (o := .cells #[.int .u8 0, .int .u8 0, .slice none 0 0] 41) (new_at rfl _) (by simp)
  have d0 := cell_at g2 0
  have d1 := cell_at g2 1
  have d2 := cell_at g2 2
  have e0 := free_at g2 0
  have e1 := free_at g2 1
  have e2 := free_at g2 2
  have c2' : p.length + 3 ≤ c1 := c2
  change Hid _ at HO
  clear HO c2 ho1
  obtain ⟨L, hL⟩ : ∃ L, p.length + 3 = L := ⟨_, rfl⟩
  rw [show (k :: s :: n :: p).length = L from hL]
  have i0 : 0 < L := by omega
  have i1 : (1 : Int) < (L : Int) := by omega
  have i2 : (2 : Int) < (L : Int) := by omega
  have i3 : (3 : Int) ≤ (L : Int) := by omega
  have i4 : (L : Int) ≤ (c1 : Int) := by omega
  have hcase : (c1 = 3 ∧ SliceAt w1 1 (.slice (some ⟨g, 0, none⟩) (L - 3) 0) p.length (u8s p)) ∨ (¬ c1 = 3 ∧ SliceAt w1 1 (.slice (some ⟨g, 3, none⟩) (L - 3) (c1 - 3)) p.length (u8s p)) := by
    have hp3 : L - 3 = p.length := by omega
    rw [hp3]
    by_cases hc3 : c1 = 3
    · left; rw [if_pos hc3] at hsub; rw [hc3] at hsub; exact ⟨hc3, hsub⟩
    · right; rw [if_neg hc3] at hsub; exact ⟨hc3, hsub⟩
  have HL := Lib.hid hL
  clear hL hsub
  have hgn : g ≠ w.heap.size := by omega
  rcases hcase with ⟨rfl, hs3⟩ | ⟨hc3, hs3⟩
  all_goals
    go_wp2_with fail
    go_region_held3 (fun w' => w'.cell? ⟨g, 0, none⟩ = some (.int .u8 (k.toNat : Int)) ∧ w'.cell? ⟨g, 1, none⟩ = some (.int .u8 (s.toNat : Int))) (first | exact ⟨x0, x1⟩ | exact ⟨cell_far (cell_far (cell_far y0 hgn _) hgn _) hgn _, cell_far (cell_far (cell_far y1 hgn _) hgn _) hgn _⟩ | exact ⟨y0, y1⟩)
      (first | (go_at_call 51; refine (Clone_c _ p _ (hs3.later (Below.refl _ _).drew) hpl2).mono ?_; rintro e w2 ⟨v2, rfl, ho2, b2⟩; have y0 := (b2.cell (p := ⟨g, 0, none⟩) hgb.2).trans x0; have y1 := (b2.cell (p := ⟨g, 1, none⟩) hgb.2).trans x1; have y2 := (b2.cell (p := ⟨g, 2, none⟩) hgb.2).trans x2; have g3 := below_at b2 g2 (by have := b1.size; simp at this; simp; omega); have e3 := free_at g3 0; have e4 := free_at g3 1; have e5 := free_at g3 2; have k3 := cell_at g3 0; have k4 := cell_at g3 1; have k5 := cell_at g3 2; obtain ⟨A2, c2, rfl, _⟩ := (sliceAt_of_own ho2).form))
    have V : FVar (((w2.setCell ⟨w.heap.size, 0, none⟩ (.int .u8 (k.toNat : Int))).setCell ⟨w.heap.size, 1, none⟩ (.int .u8 (s.toNat : Int))).setCell ⟨w.heap.size, 2, none⟩ (.slice A2 p.length c2)) w.heap.size k.toNat s.toNat (.slice A2 p.length c2) p :=
      ⟨set_at (set_at (set_at g3 0 _) 1 _) 2 _, sliceAt_of_own (own_set (own_set (own_set ho2 (show w.heap.size < w1.heap.size by omega) _) (show w.heap.size < w1.heap.size by omega) _) (show w.heap.size < w1.heap.size by omega) _)⟩
    have B3 : Below w.heap.size w (((w2.setCell ⟨w.heap.size, 0, none⟩ (.int .u8 (k.toNat : Int))).setCell ⟨w.heap.size, 1, none⟩ (.int .u8 (s.toNat : Int))).setCell ⟨w.heap.size, 2, none⟩ (.slice A2 p.length c2)) :=
      (((((below_step hB b1).drew).trans (b2.mono (show w.heap.size ≤ w1.heap.size by omega))).setCell (by simp) _).setCell (by simp) _).setCell (by simp) _
    have z2 := cell_far (cell_far (cell_far y2 hgn (p := ⟨w.heap.size, 0, none⟩) (.int .u8 (k.toNat : Int))) hgn (p := ⟨w.heap.size, 1, none⟩) (.int .u8 (s.toNat : Int))) hgn (p := ⟨w.heap.size, 2, none⟩) (.slice A2 p.length c2)
    have hA2 : ∀ q, VB (.slice A2 p.length c2) p.length q → q ≠ w.heap.size := fun q hq e => by
      have := (own_base ho2 (own_vb hq.2)).1
      have h2 : w1.heap.size ≤ q := this
      omega
    have HA2 := Lib.hid hA2
    clear hA2
    clear x0 x1 x2 y0 y1 y2 g2 g3 d0 d1 d2 e0 e1 e2 e3 e4 e5 k3 k4 k5 ho2
    generalize (((w2.setCell ⟨w.heap.size, 0, none⟩ (.int .u8 (k.toNat : Int))).setCell ⟨w.heap.size, 1, none⟩ (.int .u8 (s.toNat : Int))).setCell ⟨w.heap.size, 2, none⟩ (.slice A2 p.length c2)) = W3 at *
    have x0 := V.c0
    have x1 := V.c1
    have x2 := V.c2
    have hgs : g < W3.heap.size := lt_of_cell (p := ⟨g, 2, none⟩) z2
    have VD := V.later (Below.refl _ _).drew
    have hn8 : (n.toNat : Int) < 256 := by have := n.isLt; omega
    have hwn : IntKind.i64.wrap (n.toNat : Int) = (n.toNat : Int) := IntWalk.i64_in _ (by have := n.isLt; omega)
    rcases hr : rightF k.toNat p.length with _ | _
    · have HR := Lib.hid hr
      clear hr
      go_wp2_with fail
      refine wp_region_held_drew (S := (fun w' => w'.cell? ⟨w.heap.size, 0, none⟩ = some (.int .u8 (k.toNat : Int)) ∧ w'.cell? ⟨w.heap.size, 1, none⟩ = some (.int .u8 (s.toNat : Int)) ∧ w'.cell? ⟨w.heap.size, 2, none⟩ = some (.slice A2 p.length c2))) (by kernel_rfl) ?_ (fun hHeld => ?_)
      · exact ⟨x0, x1, x2⟩
      refine Node.tk 0 ?_ rfl ?_ ?_
      rotate_left
      · intro w hSw; (try dsimp only at hSw); go_simp; try with_reducible rfl
      simp only [zA, zS, zZ, Act.put, zP, zQ, zR]
      refine Node.on 1 rfl (fun K hK => ?_)
      go_simp
      refine (Right_g _ _ _ p false _ HR.out VD.sl).mono ?_
      rintro e w4 ⟨rfl, b4⟩
      refine hK.out _ _ ?_ (fun hHeld => ?_)
      · exact ⟨(VD.later b4).c0, (VD.later b4).c1, (VD.later b4).c2⟩
      clear hK K
      refine Node.tk 2 ?_ rfl ?_ ?_
      rotate_left
      · intro w hSw; (try dsimp only at hSw); go_simp; try with_reducible rfl
      simp only [zA, zS, zZ, Act.put, zP, zQ, zR]
      refine Node.sk 3 rfl ?_
      refine Node.sk 4 rfl ?_
      refine Node.sk 5 rfl ?_
      refine Node.sk 6 rfl ?_
      refine Node.sk 7 rfl ?_
      refine Node.sk 8 rfl ?_
      refine Node.sk 9 rfl ?_
      refine Node.sk 10 rfl ?_
      simp only [zA, zS, zZ, Act.put, zP, zQ, zR]
      refine Node.tk 11 ?_ rfl ?_ ?_
      rotate_left
      · intro w hSw; (try dsimp only at hSw); go_simp; try with_reducible rfl
      simp only [zA, zS, zZ, Act.put, zP, zQ, zR]
      refine wpAnyH_done (by kernel_rfl) ?_ _
      have V4 := VD.later b4
      have d0 := V4.c0
      have d1 := V4.c1
      have d2 := V4.c2
      have e0 := free_at V4.at_ 0
      have e1 := free_at V4.at_ 1
      have e2 := free_at V4.at_ 2
      clear x0 x1 x2 z2
      go_wp2
      go_step3
      go_wp2
      rw [jump_ret]
      refine bodyPost_ret (res_frm2 (t := 2) (u := 3) rfl rfl (set_at (set_at (set_at V4.at_ 0 _) 1 _) 2 _)) rfl ⟨?_, ?_⟩
      · exact ((((B3.drew).trans (b4.mono B3.size)).setCell (by simp) _).setCell (by simp) _).setCell (by simp) _
      · rw [HR.out]; simp
    · have HR := Lib.hid hr
      clear hr
      have hnp : ((n.toNat : Int) == (p.length : Int)) = true ∨ ((n.toNat : Int) == (p.length : Int)) = false := by cases ((n.toNat : Int) == (p.length : Int)) <;> simp
      rcases hnp with hnp | hnp
      all_goals have HNP := Lib.hid hnp
      · go_wp2_with fail
        go_region_held3 (fun w' => w'.cell? ⟨w.heap.size, 0, none⟩ = some (.int .u8 (k.toNat : Int)) ∧ w'.cell? ⟨w.heap.size, 1, none⟩ = some (.int .u8 (s.toNat : Int)) ∧ w'.cell? ⟨w.heap.size, 2, none⟩ = some (.slice A2 p.length c2) ∧ w'.cell? ⟨g, 2, none⟩ = some (.int .u8 (n.toNat : Int)))
          (first | exact ⟨V4.c0, V4.c1, V4.c2, z4⟩ | exact ⟨x0, x1, x2, z2⟩)
          (first | (go_at_call 52; refine (Right_g _ _ _ p true _ HR.out VD.sl).mono ?_; rintro e w4 ⟨rfl, b4⟩; have V4 := VD.later b4; have z4 := (b4.cell (p := ⟨g, 2, none⟩) hgs).trans z2))
        have d0 := V4.c0
        have d1 := V4.c1
        have d2 := V4.c2
        have e0 := free_at V4.at_ 0
        have e1 := free_at V4.at_ 1
        have e2 := free_at V4.at_ 2
        clear x0 x1 x2 z2 z4
        go_wp2
        rw [jump_ret]
        refine bodyPost_ret (res_frm2 (t := 2) (u := 3) rfl rfl (set_at (set_at (set_at V4.at_ 0 _) 1 _) 2 _)) rfl ⟨?_, ?_⟩
        · exact ((((B3.drew).trans (b4.mono B3.size)).setCell (by simp) _).setCell (by simp) _).setCell (by simp) _
        · rw [HR.out, HNP.out, Bool.and_self, if_pos rfl]
          refine ⟨A2, c2, rfl, slice_keep V4.sl ((((Keep.refl (fun q => q ≠ w.heap.size) w4).setCell (fun _ h => h rfl) _).setCell (fun _ h => h rfl) _).setCell (fun _ h => h rfl) _) HA2.out⟩
      · go_wp2_with fail
        go_region_held3 (fun w' => w'.cell? ⟨w.heap.size, 0, none⟩ = some (.int .u8 (k.toNat : Int)) ∧ w'.cell? ⟨w.heap.size, 1, none⟩ = some (.int .u8 (s.toNat : Int)) ∧ w'.cell? ⟨w.heap.size, 2, none⟩ = some (.slice A2 p.length c2) ∧ w'.cell? ⟨g, 2, none⟩ = some (.int .u8 (n.toNat : Int)))
          (first | exact ⟨V4.c0, V4.c1, V4.c2, z4⟩ | exact ⟨x0, x1, x2, z2⟩)
          (first | (go_at_call 52; refine (Right_g _ _ _ p true _ HR.out VD.sl).mono ?_; rintro e w4 ⟨rfl, b4⟩; have V4 := VD.later b4; have z4 := (b4.cell (p := ⟨g, 2, none⟩) hgs).trans z2))
        have d0 := V4.c0
        have d1 := V4.c1
        have d2 := V4.c2
        have e0 := free_at V4.at_ 0
        have e1 := free_at V4.at_ 1
        have e2 := free_at V4.at_ 2
        clear x0 x1 x2 z2 z4
        go_wp2
        go_step3
        go_wp2
        rw [jump_ret]
        refine bodyPost_ret (res_frm2 (t := 2) (u := 3) rfl rfl (set_at (set_at (set_at V4.at_ 0 _) 1 _) 2 _)) rfl ⟨?_, ?_⟩
        · exact ((((B3.drew).trans (b4.mono B3.size)).setCell (by simp) _).setCell (by simp) _).setCell (by simp) _
        · rw [HR.out, HNP.out]; simp
end Go.Proofs.YtlanlkpamnoekaaDoor
namespace Go.Proofs.YtlanlkpamnoekaaDoor
open Go.RowKit Rf Mem Bv Crc Str
attribute [local go_sem ↓] run_max2 run_min2
theorem Take_no (v : Value) (b : List (BitVec 8)) (er : Int) (w : World) (hs : SliceAt w 1 v b.length (u8s b)) (hb : (takeV b).2.2.2 = er) (h0 : er ≠ 0) (hl2 : b.length ≤ 140737488355328) :
    Calls Tryd.prog 32 #[v] w fun e w' => Below w.heap.size w w' ∧ e = .returned (.tuple #[fv 0 0 (.slice none 0 0), .int .i64 er]) := by
  subst hb
  unfold takeV at h0 ⊢
  split
  · rename_i h5
    exact Take_short v b w hs h5
  · rename_i h5
    rw [if_neg h5] at h0
    split
    · rename_i he
      exact Take_crc v b w hs (by omega) hl2 he
    · rename_i he
      rw [if_neg he] at h0
      have he' : (openV b).2 = 0 := by simpa using he
      have hlen := openV_len he'
      split
      · rename_i k1 s1 n p1 heq
        rw [heq] at h0
        dsimp only at h0
        split
        · rename_i hc; rw [if_pos hc] at h0; exact absurd rfl h0
        · rename_i hc
          refine (Take_form v b k1 s1 n p1 w hs (by omega) hl2 (Prod.ext heq he')).mono ?_
          rintro e w' ⟨b1, h2⟩
          rw [if_neg hc] at h2
          exact ⟨b1, h2⟩
      · rename_i hne
        exfalso
        rcases h : (openV b).1 with _ | ⟨a, _ | ⟨a2, _ | ⟨a3, p⟩⟩⟩
        · rw [h] at hlen; simp at hlen; omega
        · rw [h] at hlen; simp at hlen; omega
        · rw [h] at hlen; simp at hlen; omega
        · exact hne _ _ _ _ h
theorem Newer_g (n was : Int) (r : Bool) (w : World) (hr : r = newer n was) (h1 : 0 ≤ n) (h2 : n < 256) (h3 : 0 ≤ was) (h4 : was < 256) : Calls Tryd.prog 33 #[.int .u8 n, .int .u8 was] w fun e w' => e = .returned (.bool r) ∧ w = w' := by subst hr; exact Newer_c n was w h1 h2 h3 h4
end Go.Proofs.YtlanlkpamnoekaaDoor
namespace Go.Proofs.YtlanlkpamnoekaaDoor
open List renaming getElem_toArray → zA, getElem_cons_succ → zS, getElem_cons_zero → zZ, setIfInBounds_toArray → zP, set_cons_zero → zQ, set_cons_succ → zR
open Go.RowKit Rf Mem Bv Crc Str
attribute [local go_sem ↓] run_max2 run_min2
set_option maxHeartbeats 4000000 in
set_option maxRecDepth 100000 in
theorem Take_formF (v : Value) (b : List (BitVec 8)) (k s n : BitVec 8) (p : List (BitVec 8)) (w : World) (hs : SliceAt w 1 v b.length (u8s b)) (hl : 5 ≤ b.length) (hl2 : b.length ≤ 140737488355328) (he : openV b = (k :: s :: n :: p, 0)) :
    Calls Tryd.prog 32 #[v] w fun e w' => Below w.heap.size w w' ∧ 
      if rightF k.toNat p.length && ((n.toNat : Int) == (p.length : Int)) then ∃ A c, e = .returned (.tuple #[fv k.toNat s.toNat (.slice A p.length c), .int .i64 0]) ∧ SliceAt w' 1 (.slice A p.length c) p.length (u8s p) ∧ ∀ q, VB (.slice A p.length c) p.length q → w.heap.size < q
      else e = .returned (.tuple #[fv 0 0 (.slice none 0 0), .int .i64 41]) := by
  have hB := below_new w (.cells #[.int .u8 0, .int .u8 0, .slice none 0 0] 41)
  have hs' := hs.later hB
  obtain ⟨A, c, rfl, _⟩ := hs.form
  have q1 : decide ((b.length : Int) < 5) = false := decide_eq_false (by omega)
  have hO := Open_c _ b _ hs' hl2
  have hpl := openV_len (b := b) (by rw [he])
  rw [he] at hO hpl
  have hpl2 : p.length ≤ 140737488355328 := by simp at hpl; omega
  have HO := Lib.hid hO
  clear hs hO he hpl
  go_enter Tryd.func32, Tryd.ntmps32
  go_wp2_with fail
  refine wp_scope_fwd 0 (by simp only [findLabel]; rfl) ?_
  go_wp2_with fail
  refine (HO.out).mono ?_
  rintro e w1 ⟨v1, rfl, ho1, b1⟩
  obtain ⟨A1, c1, rfl, c2, _⟩ := (sliceAt_of_own ho1).form
  obtain ⟨g, rfl⟩ := own_some ho1 (by simp)
  have S1 : SliceAt w1 1 (.slice (some ⟨g, 0, none⟩) (p.length + 3) c1) (p.length + 3) (u8s (k :: s :: n :: p)) := sliceAt_of_own ho1
  have hgb := own_base ho1 (g := g) rfl
  simp only [World.size_alloc] at hgb
  have x0 : w1.cell? ⟨g, 0, none⟩ = some (.int .u8 (k.toNat : Int)) := ho1.cellAt 0 (by simp)
  have x1 : w1.cell? ⟨g, 1, none⟩ = some (.int .u8 (s.toNat : Int)) := ho1.cellAt 1 (by simp)
  have x2 : w1.cell? ⟨g, 2, none⟩ = some (.int .u8 (n.toNat : Int)) := ho1.cellAt 2 (by simp)
  have hsub := S1.sub (lo := 3) (hi := p.length + 3) (by omega) (Nat.le_refl _)
  rw [Nat.add_sub_cancel, show List.take (p.length * 1) (List.drop (3 * 1) (u8s (k :: s :: n :: p))) = u8s p from by simp only [u8s, List.map_cons, Nat.mul_one, Nat.one_mul, List.drop_succ_cons, List.drop_zero]; exact List.take_of_length_le (by simp)] at hsub
  have g2 := below_at b1 (k := w.heap.size) (o := .cells #[.int .u8 0, .int .u8 0, .slice none 0 0] 41) (new_at rfl _) (by simp)
  have d0 := cell_at g2 0
  have d1 := cell_at g2 1
  have d2 := cell_at g2 2
  have e0 := free_at g2 0
  have e1 := free_at g2 1
  have e2 := free_at g2 2
  have c2' : p.length + 3 ≤ c1 := c2
  change Hid _ at HO
  clear HO c2 ho1
  obtain ⟨L, hL⟩ : ∃ L, p.length + 3 = L := ⟨_, rfl⟩
  rw [show (k :: s :: n :: p).length = L from hL]
  have i0 : 0 < L := by omega
  have i1 : (1 : Int) < (L : Int) := by omega
  have i2 : (2 : Int) < (L : Int) := by omega
  have i3 : (3 : Int) ≤ (L : Int) := by omega
  have i4 : (L : Int) ≤ (c1 : Int) := by omega
  have hcase : (c1 = 3 ∧ SliceAt w1 1 (.slice (some ⟨g, 0, none⟩) (L - 3) 0) p.length (u8s p)) ∨ (¬ c1 = 3 ∧ SliceAt w1 1 (.slice (some ⟨g, 3, none⟩) (L - 3) (c1 - 3)) p.length (u8s p)) := by
    have hp3 : L - 3 = p.length := by omega
    rw [hp3]
    by_cases hc3 : c1 = 3
    · left; rw [if_pos hc3] at hsub; rw [hc3] at hsub; exact ⟨hc3, hsub⟩
    · right; rw [if_neg hc3] at hsub; exact ⟨hc3, hsub⟩
  have HL := Lib.hid hL
  clear hL hsub
  have hgn : g ≠ w.heap.size := by omega
  rcases hcase with ⟨rfl, hs3⟩ | ⟨hc3, hs3⟩
  all_goals
    go_wp2_with fail
    go_region_held3 (fun w' => w'.cell? ⟨g, 0, none⟩ = some (.int .u8 (k.toNat : Int)) ∧ w'.cell? ⟨g, 1, none⟩ = some (.int .u8 (s.toNat : Int))) (first | exact ⟨x0, x1⟩ | exact ⟨cell_far (cell_far (cell_far y0 hgn _) hgn _) hgn _, cell_far (cell_far (cell_far y1 hgn _) hgn _) hgn _⟩ | exact ⟨y0, y1⟩)
      (first | (go_at_call 51; refine (Clone_c _ p _ (hs3.later (Below.refl _ _).drew) hpl2).mono ?_; rintro e w2 ⟨v2, rfl, ho2, b2⟩; have y0 := (b2.cell (p := ⟨g, 0, none⟩) hgb.2).trans x0; have y1 := (b2.cell (p := ⟨g, 1, none⟩) hgb.2).trans x1; have y2 := (b2.cell (p := ⟨g, 2, none⟩) hgb.2).trans x2; have g3 := below_at b2 g2 (by have := b1.size; simp at this; simp; omega); have e3 := free_at g3 0; have e4 := free_at g3 1; have e5 := free_at g3 2; have k3 := cell_at g3 0; have k4 := cell_at g3 1; have k5 := cell_at g3 2; obtain ⟨A2, c2, rfl, _⟩ := (sliceAt_of_own ho2).form))
    have V : FVar (((w2.setCell ⟨w.heap.size, 0, none⟩ (.int .u8 (k.toNat : Int))).setCell ⟨w.heap.size, 1, none⟩ (.int .u8 (s.toNat : Int))).setCell ⟨w.heap.size, 2, none⟩ (.slice A2 p.length c2)) w.heap.size k.toNat s.toNat (.slice A2 p.length c2) p :=
      ⟨set_at (set_at (set_at g3 0 _) 1 _) 2 _, sliceAt_of_own (own_set (own_set (own_set ho2 (show w.heap.size < w1.heap.size by omega) _) (show w.heap.size < w1.heap.size by omega) _) (show w.heap.size < w1.heap.size by omega) _)⟩
    have B3 : Below w.heap.size w (((w2.setCell ⟨w.heap.size, 0, none⟩ (.int .u8 (k.toNat : Int))).setCell ⟨w.heap.size, 1, none⟩ (.int .u8 (s.toNat : Int))).setCell ⟨w.heap.size, 2, none⟩ (.slice A2 p.length c2)) :=
      (((((below_step hB b1).drew).trans (b2.mono (show w.heap.size ≤ w1.heap.size by omega))).setCell (by simp) _).setCell (by simp) _).setCell (by simp) _
    have z2 := cell_far (cell_far (cell_far y2 hgn (p := ⟨w.heap.size, 0, none⟩) (.int .u8 (k.toNat : Int))) hgn (p := ⟨w.heap.size, 1, none⟩) (.int .u8 (s.toNat : Int))) hgn (p := ⟨w.heap.size, 2, none⟩) (.slice A2 p.length c2)
    have hA2 : ∀ q, VB (.slice A2 p.length c2) p.length q → w.heap.size < q := fun q hq => by
      have := (own_base ho2 (own_vb hq.2)).1
      have h2 : w1.heap.size ≤ q := this
      omega
    have HA2 := Lib.hid hA2
    clear hA2
    clear x0 x1 x2 y0 y1 y2 g2 g3 d0 d1 d2 e0 e1 e2 e3 e4 e5 k3 k4 k5 ho2
    generalize (((w2.setCell ⟨w.heap.size, 0, none⟩ (.int .u8 (k.toNat : Int))).setCell ⟨w.heap.size, 1, none⟩ (.int .u8 (s.toNat : Int))).setCell ⟨w.heap.size, 2, none⟩ (.slice A2 p.length c2)) = W3 at *
    have x0 := V.c0
    have x1 := V.c1
    have x2 := V.c2
    have hgs : g < W3.heap.size := lt_of_cell (p := ⟨g, 2, none⟩) z2
    have VD := V.later (Below.refl _ _).drew
    have hn8 : (n.toNat : Int) < 256 := by have := n.isLt; omega
    have hwn : IntKind.i64.wrap (n.toNat : Int) = (n.toNat : Int) := IntWalk.i64_in _ (by have := n.isLt; omega)
    rcases hr : rightF k.toNat p.length with _ | _
    · have HR := Lib.hid hr
      clear hr
      go_wp2_with fail
      refine wp_region_held_drew (S := (fun w' => w'.cell? ⟨w.heap.size, 0, none⟩ = some (.int .u8 (k.toNat : Int)) ∧ w'.cell? ⟨w.heap.size, 1, none⟩ = some (.int .u8 (s.toNat : Int)) ∧ w'.cell? ⟨w.heap.size, 2, none⟩ = some (.slice A2 p.length c2))) (by kernel_rfl) ?_ (fun hHeld => ?_)
      · exact ⟨x0, x1, x2⟩
      refine Node.tk 0 ?_ rfl ?_ ?_
      rotate_left
      · intro w hSw; (try dsimp only at hSw); go_simp; try with_reducible rfl
      simp only [zA, zS, zZ, Act.put, zP, zQ, zR]
      refine Node.on 1 rfl (fun K hK => ?_)
      go_simp
      refine (Right_g _ _ _ p false _ HR.out VD.sl).mono ?_
      rintro e w4 ⟨rfl, b4⟩
      refine hK.out _ _ ?_ (fun hHeld => ?_)
      · exact ⟨(VD.later b4).c0, (VD.later b4).c1, (VD.later b4).c2⟩
      clear hK K
      refine Node.tk 2 ?_ rfl ?_ ?_
      rotate_left
      · intro w hSw; (try dsimp only at hSw); go_simp; try with_reducible rfl
      simp only [zA, zS, zZ, Act.put, zP, zQ, zR]
      refine Node.sk 3 rfl ?_
      refine Node.sk 4 rfl ?_
      refine Node.sk 5 rfl ?_
      refine Node.sk 6 rfl ?_
      refine Node.sk 7 rfl ?_
      refine Node.sk 8 rfl ?_
      refine Node.sk 9 rfl ?_
      refine Node.sk 10 rfl ?_
      simp only [zA, zS, zZ, Act.put, zP, zQ, zR]
      refine Node.tk 11 ?_ rfl ?_ ?_
      rotate_left
      · intro w hSw; (try dsimp only at hSw); go_simp; try with_reducible rfl
      simp only [zA, zS, zZ, Act.put, zP, zQ, zR]
      refine wpAnyH_done (by kernel_rfl) ?_ _
      have V4 := VD.later b4
      have d0 := V4.c0
      have d1 := V4.c1
      have d2 := V4.c2
      have e0 := free_at V4.at_ 0
      have e1 := free_at V4.at_ 1
      have e2 := free_at V4.at_ 2
      clear x0 x1 x2 z2
      go_wp2
      go_step3
      go_wp2
      rw [jump_ret]
      refine bodyPost_ret (res_frm2 (t := 2) (u := 3) rfl rfl (set_at (set_at (set_at V4.at_ 0 _) 1 _) 2 _)) rfl ⟨?_, ?_⟩
      · exact ((((B3.drew).trans (b4.mono B3.size)).setCell (by simp) _).setCell (by simp) _).setCell (by simp) _
      · rw [HR.out]; simp
    · have HR := Lib.hid hr
      clear hr
      have hnp : ((n.toNat : Int) == (p.length : Int)) = true ∨ ((n.toNat : Int) == (p.length : Int)) = false := by cases ((n.toNat : Int) == (p.length : Int)) <;> simp
      rcases hnp with hnp | hnp
      all_goals have HNP := Lib.hid hnp
      · go_wp2_with fail
        go_region_held3 (fun w' => w'.cell? ⟨w.heap.size, 0, none⟩ = some (.int .u8 (k.toNat : Int)) ∧ w'.cell? ⟨w.heap.size, 1, none⟩ = some (.int .u8 (s.toNat : Int)) ∧ w'.cell? ⟨w.heap.size, 2, none⟩ = some (.slice A2 p.length c2) ∧ w'.cell? ⟨g, 2, none⟩ = some (.int .u8 (n.toNat : Int)))
          (first | exact ⟨V4.c0, V4.c1, V4.c2, z4⟩ | exact ⟨x0, x1, x2, z2⟩)
          (first | (go_at_call 52; refine (Right_g _ _ _ p true _ HR.out VD.sl).mono ?_; rintro e w4 ⟨rfl, b4⟩; have V4 := VD.later b4; have z4 := (b4.cell (p := ⟨g, 2, none⟩) hgs).trans z2))
        have d0 := V4.c0
        have d1 := V4.c1
        have d2 := V4.c2
        have e0 := free_at V4.at_ 0
        have e1 := free_at V4.at_ 1
        have e2 := free_at V4.at_ 2
        clear x0 x1 x2 z2 z4
        go_wp2
        rw [jump_ret]
        refine bodyPost_ret (res_frm2 (t := 2) (u := 3) rfl rfl (set_at (set_at (set_at V4.at_ 0 _) 1 _) 2 _)) rfl ⟨?_, ?_⟩
        · exact ((((B3.drew).trans (b4.mono B3.size)).setCell (by simp) _).setCell (by simp) _).setCell (by simp) _
        · rw [HR.out, HNP.out, Bool.and_self, if_pos rfl]
          refine ⟨A2, c2, rfl, slice_keep V4.sl ((((Keep.refl (fun q => q ≠ w.heap.size) w4).setCell (fun _ h => h rfl) _).setCell (fun _ h => h rfl) _).setCell (fun _ h => h rfl) _) (fun q hq => Nat.ne_of_gt (HA2.out q hq)), HA2.out⟩
      · go_wp2_with fail
        go_region_held3 (fun w' => w'.cell? ⟨w.heap.size, 0, none⟩ = some (.int .u8 (k.toNat : Int)) ∧ w'.cell? ⟨w.heap.size, 1, none⟩ = some (.int .u8 (s.toNat : Int)) ∧ w'.cell? ⟨w.heap.size, 2, none⟩ = some (.slice A2 p.length c2) ∧ w'.cell? ⟨g, 2, none⟩ = some (.int .u8 (n.toNat : Int)))
          (first | exact ⟨V4.c0, V4.c1, V4.c2, z4⟩ | exact ⟨x0, x1, x2, z2⟩)
          (first | (go_at_call 52; refine (Right_g _ _ _ p true _ HR.out VD.sl).mono ?_; rintro e w4 ⟨rfl, b4⟩; have V4 := VD.later b4; have z4 := (b4.cell (p := ⟨g, 2, none⟩) hgs).trans z2))
        have d0 := V4.c0
        have d1 := V4.c1
        have d2 := V4.c2
        have e0 := free_at V4.at_ 0
        have e1 := free_at V4.at_ 1
        have e2 := free_at V4.at_ 2
        clear x0 x1 x2 z2 z4
        go_wp2
        go_step3
        go_wp2
        rw [jump_ret]
        refine bodyPost_ret (res_frm2 (t := 2) (u := 3) rfl rfl (set_at (set_at (set_at V4.at_ 0 _) 1 _) 2 _)) rfl ⟨?_, ?_⟩
        · exact ((((B3.drew).trans (b4.mono B3.size)).setCell (by simp) _).setCell (by simp) _).setCell (by simp) _
        · rw [HR.out, HNP.out]; simp
theorem Take_yesF (k s : BitVec 8) (k' s' : Int) (v : Value) (p b : List (BitVec 8)) (w : World) (hk : k' = k.toNat) (hs' : s' = s.toNat) (hs : SliceAt w 1 v b.length (u8s b)) (hb : takeV b = (k, s, p, 0)) (hl2 : b.length ≤ 140737488355328) :
    Calls Tryd.prog 32 #[v] w fun e w' => Below w.heap.size w w' ∧ ∃ A c, e = .returned (.tuple #[fv k' s' (.slice A p.length c), .int .i64 0]) ∧ SliceAt w' 1 (.slice A p.length c) p.length (u8s p) ∧ ∀ q, VB (.slice A p.length c) p.length q → w.heap.size < q := by
  subst hk hs'
  unfold takeV at hb
  split at hb
  · cases hb
  rename_i h5
  split at hb
  · rename_i he; simp only [Prod.mk.injEq] at hb; exact absurd hb.2.2.2 he
  rename_i he
  have he' : (openV b).2 = 0 := by simpa using he
  split at hb
  · rename_i k1 s1 n p1 heq
    split at hb
    · rename_i hc
      simp only [Prod.mk.injEq] at hb
      obtain ⟨rfl, rfl, rfl, _⟩ := hb
      refine (Take_formF v b k1 s1 n p1 w hs (by omega) hl2 (Prod.ext heq he')).mono ?_
      rintro e w' ⟨b1, h2⟩
      rw [if_pos hc] at h2
      exact ⟨b1, h2⟩
    · simp at hb
  · simp at hb
end Go.Proofs.YtlanlkpamnoekaaDoor
namespace Go.Proofs.YtlanlkpamnoekaaDoor
open Go.RowKit Rf Mem Bv Crc Str
set_option maxRecDepth 100000
attribute [local go_sem ↓] run_max2 run_min2

theorem load_lk {W : World} {g : Nat} {x y z : Value} {f : Nat × Nat} (hg : W.heap[g]? = some (.cells #[x, y, z] 31 f)) : (loadVar 31 ⟨g, 0, none⟩).run Tryd.prog W = .ok (.agg #[x, y, z]) W := by
  have c0 := cell_at hg 0
  have c1 := cell_at hg 1
  have c2 := cell_at hg 2
  simp only [List.getElem?_toArray, List.getElem?_cons_zero, List.getElem?_cons_succ] at c0 c1 c2
  simp [go_sem, c0, c1, c2]
theorem res_hear {fn : Func} {t u v : Tmp} (hf : fn.results = #[.cell t 31, .cell u 41, .tmp v]) {tmps : Array Value} {W : World} {g g' : Nat} {x y z x' y' z' : Value} {f f' : Nat × Nat} (hs : tmps.getD t undef = .pointer (some ⟨g, 0, none⟩)) (hs' : tmps.getD u undef = .pointer (some ⟨g', 0, none⟩))
    (hg : W.heap[g]? = some (.cells #[x, y, z] 31 f)) (hg' : W.heap[g']? = some (.cells #[x', y', z'] 41 f')) :
    (results fn tmps).run Tryd.prog W = .ok (.tuple #[.agg #[x, y, z], .agg #[x', y', z'], tmps.getD v undef]) W := by
  have h1 : tmps[t]?.getD undef = .pointer (some ⟨g, 0, none⟩) := by simpa using hs
  have h2 : tmps[u]?.getD undef = .pointer (some ⟨g', 0, none⟩) := by simpa using hs'
  simp [results, hf, h1, h2, asAddr, load_lk hg, load_frm hg']

theorem LVar.set3 {W : World} {g : Nat} {s q e : Int} (h : LVar W g s q e) (s' q' e' : Int) : LVar (((W.setCell ⟨g, 0, none⟩ (.int .i64 s')).setCell ⟨g, 1, none⟩ (.int .i64 q')).setCell ⟨g, 2, none⟩ (.int .i64 e')) g s' q' e' := ⟨by
  have := set_at (set_at (set_at h.at_ 0 (.int .i64 s')) 1 (.int .i64 q')) 2 (.int .i64 e')
  simpa using this⟩
theorem far3 {W : World} {g g' : Nat} (h : g ≠ g') (x y z : Value) : (((W.setCell ⟨g', 0, none⟩ x).setCell ⟨g', 1, none⟩ y).setCell ⟨g', 2, none⟩ z).heap[g]? = W.heap[g]? := by
  rw [Below.heap_setCell _ _ _ _ h, Below.heap_setCell _ _ _ _ h, Below.heap_setCell _ _ _ _ h]
theorem LVar.far3 {W : World} {g g' : Nat} {s q e : Int} (h : LVar W g s q e) (hn : g ≠ g') (s' q' e' : Int) : LVar (((W.setCell ⟨g', 0, none⟩ (.int .i64 s')).setCell ⟨g', 1, none⟩ (.int .i64 q')).setCell ⟨g', 2, none⟩ (.int .i64 e')) g s q e := ⟨(Go.Proofs.YtlanlkpamnoekaaDoor.far3 hn _ _ _).trans h.at_⟩
theorem frame_far3 {W : World} {g g' : Nat} {o : Obj} (h : W.heap[g]? = some o) (hn : g ≠ g') (s' q' e' : Int) : (((W.setCell ⟨g', 0, none⟩ (.int .i64 s')).setCell ⟨g', 1, none⟩ (.int .i64 q')).setCell ⟨g', 2, none⟩ (.int .i64 e')).heap[g]? = some o := (Go.Proofs.YtlanlkpamnoekaaDoor.far3 hn _ _ _).trans h

/-- what Hear tells -/
def HearOut (n0 : Nat) (s q e kind : Int) (b : List (BitVec 8)) (x : Ending) (w' : World) : Prop :=
  if rightL s q e = false then x = .returned (.tuple #[lk s q e, fv 0 0 (.slice none 0 0), .int .i64 2])
  else if (takeV b).2.2.2 ≠ 0 then x = .returned (.tuple #[lk s q (onV e 1 65535), fv 0 0 (.slice none 0 0), .int .i64 (takeV b).2.2.2])
  else if ((takeV b).1.toNat : Int) ≠ kind then x = .returned (.tuple #[lk s q (onV e 1 65535), fv 0 0 (.slice none 0 0), .int .i64 41])
  else if 0 ≤ s ∧ newer ((takeV b).2.1.toNat : Int) s = false then x = .returned (.tuple #[lk s q (onV e 1 65535), fv 0 0 (.slice none 0 0), .int .i64 290])
  else ∃ A c, x = .returned (.tuple #[lk ((takeV b).2.1.toNat : Int) 0 e, fv ((takeV b).1.toNat : Int) ((takeV b).2.1.toNat : Int) (.slice A (takeV b).2.2.1.length c), .int .i64 0]) ∧ SliceAt w' 1 (.slice A (takeV b).2.2.1.length c) (takeV b).2.2.1.length (u8s (takeV b).2.2.1) ∧ ∀ q, VB (.slice A (takeV b).2.2.1.length c) (takeV b).2.2.1.length q → n0 ≤ q

set_option maxHeartbeats 1000000 in
theorem Hear_arg (s q e kind : Int) (v : Value) (b : List (BitVec 8)) (w : World) (hT : Tops w) (hs : SliceAt w 1 v b.length (u8s b)) (hl2 : b.length ≤ 140737488355328) (hr : rightL s q e = false) :
    Calls Tryd.prog 11 #[lk s q e, .int .u8 kind, v] w fun x w' => Below w.heap.size w w' ∧ HearOut w.heap.size s q e kind b x w' := by
  have b1 := below_new w (.cells #[.int .i64 s, .int .i64 q, .int .i64 e] 31)
  have V0 := LVar.new w s q e
  have x0 := V0.c0
  have x1 := V0.c1
  have x2 := V0.c2
  go_enter Tryd.func11, Tryd.ntmps11
  go_wp2_with fail
  have b2 := below_new (w.alloc (.cells #[.int .i64 s, .int .i64 q, .int .i64 e] 31)) (.cells #[.int .i64 0, .int .i64 0, .int .i64 0] 31)
  have R0 := LVar.new (w.alloc (.cells #[.int .i64 s, .int .i64 q, .int .i64 e] 31)) 0 0 0
  have V1 := V0.later b2
  have B1 := below_step b1 b2
  simp only [World.size_alloc] at R0
  clear x0 x1 x2 V0 b1 b2
  generalize hw1 : (w.alloc (.cells #[.int .i64 s, .int .i64 q, .int .i64 e] 31)).alloc (.cells #[.int .i64 0, .int .i64 0, .int .i64 0] 31) = w1 at *
  have hs1 : w1.heap.size = w.heap.size + 1 + 1 := by rw [← hw1]; simp
  clear hw1
  have b3 := below_new w1 (.cells #[.int .u8 0, .int .u8 0, .slice none 0 0] 41)
  have g2 : (w1.alloc (.cells #[.int .u8 0, .int .u8 0, .slice none 0 0] 41)).heap[w1.heap.size]? = some _ := new_at rfl _
  rw [hs1] at g2
  have V2 := V1.later b3
  have R2 := R0.later b3
  have B2 := below_step B1 b3
  have hs2 : (w1.alloc (.cells #[.int .u8 0, .int .u8 0, .slice none 0 0] 41)).heap.size = w.heap.size + 1 + 1 + 1 := by simp [hs1]
  have hT2 := hT.below B2
  clear V1 R0 B1 b3
  generalize hw2 : w1.alloc (.cells #[.int .u8 0, .int .u8 0, .slice none 0 0] 41) = W at *
  clear hw2 hs1
  have HS := Lib.hid hs2
  clear hs2
  have v0 := V2.c0
  have v1 := V2.c1
  have v2 := V2.c2
  have r0 := R2.c0
  have r1 := R2.c1
  have r2 := R2.c2
  have f0 := cell_at g2 0
  have f1 := cell_at g2 1
  have f2 := cell_at g2 2
  have e0 := free_at R2.at_ 0
  have e1 := free_at R2.at_ 1
  have e2 := free_at R2.at_ 2
  refine wp_scope_fwd 0 (by simp only [findLabel]; rfl) ?_
  go_wp2_with fail
  have R3 := R2.set3 s q e
  have B3 := ((B2.setCell (p := ⟨w.heap.size + 1, 0, none⟩) (by simp) (.int .i64 s)).setCell (p := ⟨w.heap.size + 1, 1, none⟩) (by simp) (.int .i64 q)).setCell (p := ⟨w.heap.size + 1, 2, none⟩) (by simp) (.int .i64 e)
  have V3 := V2.far3 (g' := w.heap.size + 1) (by omega) s q e
  have g3 := frame_far3 g2 (g' := w.heap.size + 1) (by omega) s q e
  have hT3 := hT.below B3
  have hs3 : (((W.setCell ⟨w.heap.size + 1, 0, none⟩ (.int .i64 s)).setCell ⟨w.heap.size + 1, 1, none⟩ (.int .i64 q)).setCell ⟨w.heap.size + 1, 2, none⟩ (.int .i64 e)).heap.size = w.heap.size + 1 + 1 + 1 := by simpa using HS.out
  clear v0 v1 v2 r0 r1 r2 f0 f1 f2 e0 e1 e2 g2 V2 R2 B2 hT2 HS
  generalize ((W.setCell ⟨w.heap.size + 1, 0, none⟩ (.int .i64 s)).setCell ⟨w.heap.size + 1, 1, none⟩ (.int .i64 q)).setCell ⟨w.heap.size + 1, 2, none⟩ (.int .i64 e) = W3 at *
  clear W
  refine (link_Right_c s q e W3 false hr.symm hT3).mono ?_
  rintro x W4 ⟨rfl, b4⟩
  have V := V3.later b4
  have R := R3.later b4
  have g := below_at b4 g3 (by omega)
  have B := B3.trans (b4.mono (by omega))
  clear V3 R3 g3 B3 hT3 hs3 b4
  have v0 := V.c0
  have v1 := V.c1
  have v2 := V.c2
  have r0 := R.c0
  have r1 := R.c1
  have r2 := R.c2
  have f0 := cell_at g 0
  have f1 := cell_at g 1
  have f2 := cell_at g 2
  have e0 := free_at R.at_ 0
  have e1 := free_at R.at_ 1
  have e2 := free_at R.at_ 2
  have h0 := free_at g 0
  have h1 := free_at g 1
  have h2 := free_at g 2
  go_wp2_with fail
  have RR := R.set3 s q e
  have BB := ((B.setCell (p := ⟨w.heap.size + 1, 0, none⟩) (by simp) (.int .i64 s)).setCell (p := ⟨w.heap.size + 1, 1, none⟩) (by simp) (.int .i64 q)).setCell (p := ⟨w.heap.size + 1, 2, none⟩) (by simp) (.int .i64 e)
  have gg := frame_far3 g (g' := w.heap.size + 1) (by omega) s q e
  have RR' := (Go.Proofs.YtlanlkpamnoekaaDoor.far3 (W := ((W4.setCell ⟨w.heap.size + 1, 0, none⟩ (.int .i64 s)).setCell ⟨w.heap.size + 1, 1, none⟩ (.int .i64 q)).setCell ⟨w.heap.size + 1, 2, none⟩ (.int .i64 e)) (g := w.heap.size + 1) (g' := w.heap.size + 1 + 1) (by omega) (.int .u8 0) (.int .u8 0) (.slice none 0 0)).trans RR.at_
  have gg' := set_at (set_at (set_at gg 0 (.int .u8 0)) 1 (.int .u8 0)) 2 (.slice none 0 0)
  have BB' := ((BB.setCell (p := ⟨w.heap.size + 1 + 1, 0, none⟩) (by simp; omega) (.int .u8 0)).setCell (p := ⟨w.heap.size + 1 + 1, 1, none⟩) (by simp; omega) (.int .u8 0)).setCell (p := ⟨w.heap.size + 1 + 1, 2, none⟩) (by simp; omega) (.slice none 0 0)
  have HR := Lib.hid RR'
  have HG := Lib.hid gg'
  have HB := Lib.hid BB'
  clear RR BB gg RR' gg' BB'
  go_region
  go_wp2
  rw [jump_ret]
  generalize (((((W4.setCell ⟨w.heap.size + 1, 0, none⟩ (.int .i64 s)).setCell ⟨w.heap.size + 1, 1, none⟩ (.int .i64 q)).setCell ⟨w.heap.size + 1, 2, none⟩ (.int .i64 e)).setCell ⟨w.heap.size + 1 + 1, 0, none⟩ (.int .u8 0)).setCell ⟨w.heap.size + 1 + 1, 1, none⟩ (.int .u8 0)).setCell ⟨w.heap.size + 1 + 1, 2, none⟩ (.slice none 0 0) = W5 at *
  clear v0 v1 v2 r0 r1 r2 f0 f1 f2 e0 e1 e2 h0 h1 h2 V R g
  have x1 := HR.out
  have x2 := HG.out
  have x3 := HB.out
  clear HR HG HB
  exact bodyPost_ret (res_hear (t := 6) (u := 7) (v := 8) (W := W5.drew) (g := w.heap.size + 1) (g' := w.heap.size + 1 + 1) rfl rfl rfl x1 x2) rfl ⟨x3.drew, by unfold HearOut; rw [if_pos hr]; rfl⟩
theorem LVar.set1 {W : World} {g : Nat} {s q e : Int} (h : LVar W g s q e) (e' : Int) : LVar (W.setCell ⟨g, 2, none⟩ (.int .i64 e')) g s q e' := ⟨by
  have := set_at h.at_ 2 (.int .i64 e')
  simpa using this⟩
theorem LVar.set01 {W : World} {g : Nat} {s q e : Int} (h : LVar W g s q e) (s' q' : Int) : LVar ((W.setCell ⟨g, 0, none⟩ (.int .i64 s')).setCell ⟨g, 1, none⟩ (.int .i64 q')) g s' q' e := ⟨by
  have := set_at (set_at h.at_ 0 (.int .i64 s')) 1 (.int .i64 q')
  simpa using this⟩
theorem frame_far1 {W : World} {g g' i : Nat} {o : Obj} (h : W.heap[g]? = some o) (hn : g ≠ g') (x : Value) : (W.setCell ⟨g', i, none⟩ x).heap[g]? = some o := (Below.heap_setCell _ _ _ _ hn).trans h
theorem lt_of_at {W : World} {g : Nat} {o : Obj} (h : W.heap[g]? = some o) : g < W.heap.size := (Array.getElem?_eq_some_iff.1 h).1
set_option maxHeartbeats 1000000 in
theorem Hear_take (s q e kind : Int) (v : Value) (b : List (BitVec 8)) (w : World) (hT : Tops w) (hs : SliceAt w 1 v b.length (u8s b)) (hl2 : b.length ≤ 140737488355328) (hr : rightL s q e = true) (he : (takeV b).2.2.2 ≠ 0) :
    Calls Tryd.prog 11 #[lk s q e, .int .u8 kind, v] w fun x w' => Below w.heap.size w w' ∧ HearOut w.heap.size s q e kind b x w' := by
  have b1 := below_new w (.cells #[.int .i64 s, .int .i64 q, .int .i64 e] 31)
  have V0 := LVar.new w s q e
  have x0 := V0.c0
  have x1 := V0.c1
  have x2 := V0.c2
  go_enter Tryd.func11, Tryd.ntmps11
  go_wp2_with fail
  have b2 := below_new (w.alloc (.cells #[.int .i64 s, .int .i64 q, .int .i64 e] 31)) (.cells #[.int .i64 0, .int .i64 0, .int .i64 0] 31)
  have R0 := LVar.new (w.alloc (.cells #[.int .i64 s, .int .i64 q, .int .i64 e] 31)) 0 0 0
  have V1 := V0.later b2
  have B1 := below_step b1 b2
  simp only [World.size_alloc] at R0
  clear x0 x1 x2 V0 b1 b2
  generalize hw1 : (w.alloc (.cells #[.int .i64 s, .int .i64 q, .int .i64 e] 31)).alloc (.cells #[.int .i64 0, .int .i64 0, .int .i64 0] 31) = w1 at *
  have hs1 : w1.heap.size = w.heap.size + 1 + 1 := by rw [← hw1]; simp
  clear hw1
  have b3 := below_new w1 (.cells #[.int .u8 0, .int .u8 0, .slice none 0 0] 41)
  have g2 : (w1.alloc (.cells #[.int .u8 0, .int .u8 0, .slice none 0 0] 41)).heap[w1.heap.size]? = some _ := new_at rfl _
  rw [hs1] at g2
  have V2 := V1.later b3
  have R2 := R0.later b3
  have B2 := below_step B1 b3
  have hs2 : (w1.alloc (.cells #[.int .u8 0, .int .u8 0, .slice none 0 0] 41)).heap.size = w.heap.size + 1 + 1 + 1 := by simp [hs1]
  have hT2 := hT.below B2
  clear V1 R0 B1 b3
  generalize hw2 : w1.alloc (.cells #[.int .u8 0, .int .u8 0, .slice none 0 0] 41) = W at *
  clear hw2 hs1
  have HS := Lib.hid hs2
  clear hs2
  have v0 := V2.c0
  have v1 := V2.c1
  have v2 := V2.c2
  have r0 := R2.c0
  have r1 := R2.c1
  have r2 := R2.c2
  have f0 := cell_at g2 0
  have f1 := cell_at g2 1
  have f2 := cell_at g2 2
  have e0 := free_at R2.at_ 0
  have e1 := free_at R2.at_ 1
  have e2 := free_at R2.at_ 2
  refine wp_scope_fwd 0 (by simp only [findLabel]; rfl) ?_
  go_wp2_with fail
  have R3 := R2.set3 s q e
  have B3 := ((B2.setCell (p := ⟨w.heap.size + 1, 0, none⟩) (by simp) (.int .i64 s)).setCell (p := ⟨w.heap.size + 1, 1, none⟩) (by simp) (.int .i64 q)).setCell (p := ⟨w.heap.size + 1, 2, none⟩) (by simp) (.int .i64 e)
  have V3 := V2.far3 (g' := w.heap.size + 1) (by omega) s q e
  have g3 := frame_far3 g2 (g' := w.heap.size + 1) (by omega) s q e
  have hT3 := hT.below B3
  have hs3 : (((W.setCell ⟨w.heap.size + 1, 0, none⟩ (.int .i64 s)).setCell ⟨w.heap.size + 1, 1, none⟩ (.int .i64 q)).setCell ⟨w.heap.size + 1, 2, none⟩ (.int .i64 e)).heap.size = w.heap.size + 1 + 1 + 1 := by simpa using HS.out
  clear v0 v1 v2 r0 r1 r2 f0 f1 f2 e0 e1 e2 g2 V2 R2 B2 hT2 HS
  generalize ((W.setCell ⟨w.heap.size + 1, 0, none⟩ (.int .i64 s)).setCell ⟨w.heap.size + 1, 1, none⟩ (.int .i64 q)).setCell ⟨w.heap.size + 1, 2, none⟩ (.int .i64 e) = W3 at *
  clear W
  refine (link_Right_c s q e W3 true hr.symm hT3).mono ?_
  rintro x W4 ⟨rfl, b4⟩
  have V := V3.later b4
  have R := R3.later b4
  have g := below_at b4 g3 (by omega)
  have B := B3.trans (b4.mono (by omega))
  clear V3 R3 g3 B3 hT3 hs3 b4
  have v0 := V.c0
  have v1 := V.c1
  have v2 := V.c2
  have r0 := R.c0
  have r1 := R.c1
  have r2 := R.c2
  have f0 := cell_at g 0
  have f1 := cell_at g 1
  have f2 := cell_at g 2
  have e0 := free_at R.at_ 0
  have e1 := free_at R.at_ 1
  have e2 := free_at R.at_ 2
  have h0 := free_at g 0
  have h1 := free_at g 1
  have h2 := free_at g 2
  have hsl := hs.later B
  go_wp2_with fail
  refine (Take_no v b _ W4 hsl rfl he hl2).mono ?_
  rintro x W5 ⟨b5, rfl⟩
  have V := V.later b5
  have R := R.later b5
  have g := below_at b5 g (lt_of_at g)
  have B := below_step B b5
  have v0 := V.c0
  have v1 := V.c1
  have v2 := V.c2
  have r0 := R.c0
  have r1 := R.c1
  have r2 := R.c2
  have f0 := cell_at g 0
  have f1 := cell_at g 1
  have f2 := cell_at g 2
  have e0 := free_at R.at_ 0
  have e1 := free_at R.at_ 1
  have e2 := free_at R.at_ 2
  have h0 := free_at g 0
  have h1 := free_at g 1
  have h2 := free_at g 2
  have R' := (Go.Proofs.YtlanlkpamnoekaaDoor.far3 (g := w.heap.size + 1) (g' := w.heap.size + 1 + 1) (by omega) (.int .u8 0) (.int .u8 0) (.slice none 0 0)).trans R.at_
  have V' := (Go.Proofs.YtlanlkpamnoekaaDoor.far3 (g := w.heap.size) (g' := w.heap.size + 1 + 1) (by omega) (.int .u8 0) (.int .u8 0) (.slice none 0 0)).trans V.at_
  have g' := set_at (set_at (set_at g 0 (.int .u8 0)) 1 (.int .u8 0)) 2 (.slice none 0 0)
  have B' := ((B.setCell (p := ⟨w.heap.size + 1 + 1, 0, none⟩) (by simp; omega) (.int .u8 0)).setCell (p := ⟨w.heap.size + 1 + 1, 1, none⟩) (by simp; omega) (.int .u8 0)).setCell (p := ⟨w.heap.size + 1 + 1, 2, none⟩) (by simp; omega) (.slice none 0 0)
  have q2 : ((takeV b).2.2.2 != 0) = true := by simpa using he
  have he0 := he
  generalize her : (takeV b).2.2.2 = er at he q2
  clear V
  have HV := Lib.hid V'
  have HR := Lib.hid R'
  have HG := Lib.hid g'
  have HB := Lib.hid B'
  clear V' R' g' B' R g B
  go_wp2
  go_step3
  go_wp2
  clear v0 v1 v2 r0 r1 r2 f0 f1 f2 e0 e1 e2 h0 h1 h2
  generalize ((W5.setCell ⟨w.heap.size + 1 + 1, 0, none⟩ (.int .u8 0)).setCell ⟨w.heap.size + 1 + 1, 1, none⟩ (.int .u8 0)).setCell ⟨w.heap.size + 1 + 1, 2, none⟩ (.slice none 0 0) = W9 at *
  have V : LVar W9 w.heap.size s q e := ⟨HV.out⟩
  have R : LVar W9 (w.heap.size + 1) s q e := ⟨HR.out⟩
  have g := HG.out
  have B := HB.out
  simp only [List.setIfInBounds_toArray, List.set_cons_zero, List.set_cons_succ] at g
  clear HV HR HG HB
  have hT9 := hT.below B
  have r2 := R.c2
  rw [jump_goto]
  go_wp2_with fail
  refine (More_c e 1 _ hT9).mono ?_
  rintro x W6 ⟨rfl, b6⟩
  have R6 := R.later b6
  have g6 := below_at b6 g (lt_of_at g)
  have B6 := below_step B b6
  clear r2 R g B hT9 b6
  generalize hE : onV e 1 65535 = E at *
  have R7 := R6.set1 E
  have g7 := frame_far1 g6 (i := 2) (g' := w.heap.size + 1) (by omega) (.int .i64 E)
  have B7 := B6.setCell (p := ⟨w.heap.size + 1, 2, none⟩) (by simp) (.int .i64 E)
  have k2 := free_at R6.at_ 2
  have r0 := R6.c0
  have r1 := R6.c1
  have r2 := R6.c2
  have e0 := free_at R6.at_ 0
  have e1 := free_at R6.at_ 1
  have h0 := free_at g6 0
  have h1 := free_at g6 1
  have h2 := free_at g6 2
  have f0 := cell_at g6 0
  have f1 := cell_at g6 1
  have f2 := cell_at g6 2
  have R8 := (Go.Proofs.YtlanlkpamnoekaaDoor.far3 (g := w.heap.size + 1) (g' := w.heap.size + 1 + 1) (by omega) (.int .u8 0) (.int .u8 0) (.slice none 0 0)).trans (R7.set3 s q E).at_
  have g8 := set_at (set_at (set_at (frame_far3 g7 (g' := w.heap.size + 1) (by omega) s q E) 0 (.int .u8 0)) 1 (.int .u8 0)) 2 (.slice none 0 0)
  have B8 := (((((B7.setCell (p := ⟨w.heap.size + 1, 0, none⟩) (by simp) (.int .i64 s)).setCell (p := ⟨w.heap.size + 1, 1, none⟩) (by simp) (.int .i64 q)).setCell (p := ⟨w.heap.size + 1, 2, none⟩) (by simp) (.int .i64 E)).setCell (p := ⟨w.heap.size + 1 + 1, 0, none⟩) (by simp; omega) (.int .u8 0)).setCell (p := ⟨w.heap.size + 1 + 1, 1, none⟩) (by simp; omega) (.int .u8 0)).setCell (p := ⟨w.heap.size + 1 + 1, 2, none⟩) (by simp; omega) (.slice none 0 0)
  have HR := Lib.hid R8
  have HG := Lib.hid g8
  have HB := Lib.hid B8
  clear R8 g8 B8 R7 g7 B7 R6 g6 B6
  go_wp2
  rw [Exit.noGoto_ret]
  have x1 := HR.out
  have x2 := HG.out
  have x3 := HB.out
  clear HR HG HB
  exact bodyPost_ret (res_hear (t := 6) (u := 7) (v := 8) (g := w.heap.size + 1) (g' := w.heap.size + 1 + 1) rfl rfl rfl x1 x2) rfl ⟨x3, by unfold HearOut; rw [if_neg (by rw [hr]; simp), if_pos he0, her, hE]; rfl⟩
set_option maxHeartbeats 1000000 in
theorem Hear_form (s q e kind : Int) (v : Value) (b : List (BitVec 8)) (k n : BitVec 8) (p : List (BitVec 8)) (k' n' : Int) (w : World) (hT : Tops w) (hs : SliceAt w 1 v b.length (u8s b)) (hl2 : b.length ≤ 140737488355328) (hr : rightL s q e = true) (hb : takeV b = (k, n, p, 0)) (hk' : k' = k.toNat) (hn' : n' = n.toNat) (hkk : k' ≠ kind) :
    Calls Tryd.prog 11 #[lk s q e, .int .u8 kind, v] w fun x w' => Below w.heap.size w w' ∧ HearOut w.heap.size s q e kind b x w' := by
  have b1 := below_new w (.cells #[.int .i64 s, .int .i64 q, .int .i64 e] 31)
  have V0 := LVar.new w s q e
  have x0 := V0.c0
  have x1 := V0.c1
  have x2 := V0.c2
  go_enter Tryd.func11, Tryd.ntmps11
  go_wp2_with fail
  have b2 := below_new (w.alloc (.cells #[.int .i64 s, .int .i64 q, .int .i64 e] 31)) (.cells #[.int .i64 0, .int .i64 0, .int .i64 0] 31)
  have R0 := LVar.new (w.alloc (.cells #[.int .i64 s, .int .i64 q, .int .i64 e] 31)) 0 0 0
  have V1 := V0.later b2
  have B1 := below_step b1 b2
  simp only [World.size_alloc] at R0
  clear x0 x1 x2 V0 b1 b2
  generalize hw1 : (w.alloc (.cells #[.int .i64 s, .int .i64 q, .int .i64 e] 31)).alloc (.cells #[.int .i64 0, .int .i64 0, .int .i64 0] 31) = w1 at *
  have hs1 : w1.heap.size = w.heap.size + 1 + 1 := by rw [← hw1]; simp
  clear hw1
  have b3 := below_new w1 (.cells #[.int .u8 0, .int .u8 0, .slice none 0 0] 41)
  have g2 : (w1.alloc (.cells #[.int .u8 0, .int .u8 0, .slice none 0 0] 41)).heap[w1.heap.size]? = some _ := new_at rfl _
  rw [hs1] at g2
  have V2 := V1.later b3
  have R2 := R0.later b3
  have B2 := below_step B1 b3
  have hs2 : (w1.alloc (.cells #[.int .u8 0, .int .u8 0, .slice none 0 0] 41)).heap.size = w.heap.size + 1 + 1 + 1 := by simp [hs1]
  have hT2 := hT.below B2
  clear V1 R0 B1 b3
  generalize hw2 : w1.alloc (.cells #[.int .u8 0, .int .u8 0, .slice none 0 0] 41) = W at *
  clear hw2 hs1
  have HS := Lib.hid hs2
  clear hs2
  have v0 := V2.c0
  have v1 := V2.c1
  have v2 := V2.c2
  have r0 := R2.c0
  have r1 := R2.c1
  have r2 := R2.c2
  have f0 := cell_at g2 0
  have f1 := cell_at g2 1
  have f2 := cell_at g2 2
  have e0 := free_at R2.at_ 0
  have e1 := free_at R2.at_ 1
  have e2 := free_at R2.at_ 2
  refine wp_scope_fwd 0 (by simp only [findLabel]; rfl) ?_
  go_wp2_with fail
  have R3 := R2.set3 s q e
  have B3 := ((B2.setCell (p := ⟨w.heap.size + 1, 0, none⟩) (by simp) (.int .i64 s)).setCell (p := ⟨w.heap.size + 1, 1, none⟩) (by simp) (.int .i64 q)).setCell (p := ⟨w.heap.size + 1, 2, none⟩) (by simp) (.int .i64 e)
  have V3 := V2.far3 (g' := w.heap.size + 1) (by omega) s q e
  have g3 := frame_far3 g2 (g' := w.heap.size + 1) (by omega) s q e
  have hT3 := hT.below B3
  have hs3 : (((W.setCell ⟨w.heap.size + 1, 0, none⟩ (.int .i64 s)).setCell ⟨w.heap.size + 1, 1, none⟩ (.int .i64 q)).setCell ⟨w.heap.size + 1, 2, none⟩ (.int .i64 e)).heap.size = w.heap.size + 1 + 1 + 1 := by simpa using HS.out
  clear v0 v1 v2 r0 r1 r2 f0 f1 f2 e0 e1 e2 g2 V2 R2 B2 hT2 HS
  generalize ((W.setCell ⟨w.heap.size + 1, 0, none⟩ (.int .i64 s)).setCell ⟨w.heap.size + 1, 1, none⟩ (.int .i64 q)).setCell ⟨w.heap.size + 1, 2, none⟩ (.int .i64 e) = W3 at *
  clear W
  refine (link_Right_c s q e W3 true hr.symm hT3).mono ?_
  rintro x W4 ⟨rfl, b4⟩
  have V := V3.later b4
  have R := R3.later b4
  have g := below_at b4 g3 (by omega)
  have B := B3.trans (b4.mono (by omega))
  clear V3 R3 g3 B3 hT3 hs3 b4
  have v0 := V.c0
  have v1 := V.c1
  have v2 := V.c2
  have r0 := R.c0
  have r1 := R.c1
  have r2 := R.c2
  have f0 := cell_at g 0
  have f1 := cell_at g 1
  have f2 := cell_at g 2
  have e0 := free_at R.at_ 0
  have e1 := free_at R.at_ 1
  have e2 := free_at R.at_ 2
  have h0 := free_at g 0
  have h1 := free_at g 1
  have h2 := free_at g 2
  have hsl := hs.later B
  go_wp2_with fail
  have hg4 := lt_of_at g
  refine (Take_yesF k n k' n' v p b W4 hk' hn' hsl hb hl2).mono ?_
  rintro x W5 ⟨b5, A, c, rfl, hp5, hf5⟩
  have V := V.later b5
  have R := R.later b5
  have g := below_at b5 g (lt_of_at g)
  have B := below_step B b5
  have v0 := V.c0
  have v1 := V.c1
  have v2 := V.c2
  have r0 := R.c0
  have r1 := R.c1
  have r2 := R.c2
  have f0 := cell_at g 0
  have f1 := cell_at g 1
  have f2 := cell_at g 2
  have e0 := free_at R.at_ 0
  have e1 := free_at R.at_ 1
  have e2 := free_at R.at_ 2
  have h0 := free_at g 0
  have h1 := free_at g 1
  have h2 := free_at g 2
  have R' := (Go.Proofs.YtlanlkpamnoekaaDoor.far3 (g := w.heap.size + 1) (g' := w.heap.size + 1 + 1) (by omega) (.int .u8 k') (.int .u8 n') (.slice A p.length c)).trans R.at_
  have V' := (Go.Proofs.YtlanlkpamnoekaaDoor.far3 (g := w.heap.size) (g' := w.heap.size + 1 + 1) (by omega) (.int .u8 k') (.int .u8 n') (.slice A p.length c)).trans V.at_
  have g' := set_at (set_at (set_at g 0 (.int .u8 k')) 1 (.int .u8 n')) 2 (.slice A p.length c)
  have B' := ((B.setCell (p := ⟨w.heap.size + 1 + 1, 0, none⟩) (by simp; omega) (.int .u8 k')).setCell (p := ⟨w.heap.size + 1 + 1, 1, none⟩) (by simp; omega) (.int .u8 n')).setCell (p := ⟨w.heap.size + 1 + 1, 2, none⟩) (by simp; omega) (.slice A p.length c)
  have hp' : SliceAt (((W5.setCell ⟨w.heap.size + 1 + 1, 0, none⟩ (.int .u8 k')).setCell ⟨w.heap.size + 1 + 1, 1, none⟩ (.int .u8 n')).setCell ⟨w.heap.size + 1 + 1, 2, none⟩ (.slice A p.length c)) 1 (.slice A p.length c) p.length (u8s p) := slice_keep hp5 ((((Keep.refl (fun q => q ≠ w.heap.size + 1 + 1) W5).setCell (fun _ h => h rfl) _).setCell (fun _ h => h rfl) _).setCell (fun _ h => h rfl) _) (fun q hq => by have := hf5 q hq; omega)
  clear V
  have HV := Lib.hid V'
  have HR := Lib.hid R'
  have HG := Lib.hid g'
  have HB := Lib.hid B'
  have HP := Lib.hid hp'
  have hf6 : ∀ q', VB (.slice A p.length c) p.length q' → w.heap.size + 1 + 1 < q' := fun q' hq => by have := hf5 q' hq; omega
  have HF := Lib.hid hf6
  clear hf6
  have HK := Lib.hid hk'
  have HN := Lib.hid hn'
  clear V' R' g' B' hp' hp5 hf5 hg4 R g B hk' hn'
  have q3 : (k' != kind) = true := by simpa using hkk
  go_wp2
  go_step3
  go_wp2
  clear v0 v1 v2 r0 r1 r2 f0 f1 f2 e0 e1 e2 h0 h1 h2
  generalize ((W5.setCell ⟨w.heap.size + 1 + 1, 0, none⟩ (.int .u8 k')).setCell ⟨w.heap.size + 1 + 1, 1, none⟩ (.int .u8 n')).setCell ⟨w.heap.size + 1 + 1, 2, none⟩ (.slice A p.length c) = W9 at *
  have V : LVar W9 w.heap.size s q e := ⟨HV.out⟩
  have R : LVar W9 (w.heap.size + 1) s q e := ⟨HR.out⟩
  have g := HG.out
  have B := HB.out
  simp only [List.setIfInBounds_toArray, List.set_cons_zero, List.set_cons_succ] at g
  clear HV HR HG HB
  have hp := HP.out
  clear HP
  clear v0 v1 v2 r0 r1 r2 f0 f1 f2 e0 e1 e2 h0 h1 h2
  have hT9 := hT.below B
  have r2 := R.c2
  rw [jump_goto]
  go_wp2_with fail
  refine (More_c e 1 _ hT9).mono ?_
  rintro x W6 ⟨rfl, b6⟩
  have R6 := R.later b6
  have g6 := below_at b6 g (lt_of_at g)
  have B6 := below_step B b6
  clear r2 R g B hT9 b6
  generalize hE : onV e 1 65535 = E at *
  have R7 := R6.set1 E
  have g7 := frame_far1 g6 (i := 2) (g' := w.heap.size + 1) (by omega) (.int .i64 E)
  have B7 := B6.setCell (p := ⟨w.heap.size + 1, 2, none⟩) (by simp) (.int .i64 E)
  have k2 := free_at R6.at_ 2
  have r0 := R6.c0
  have r1 := R6.c1
  have r2 := R6.c2
  have e0 := free_at R6.at_ 0
  have e1 := free_at R6.at_ 1
  have h0 := free_at g6 0
  have h1 := free_at g6 1
  have h2 := free_at g6 2
  have f0 := cell_at g6 0
  have f1 := cell_at g6 1
  have f2 := cell_at g6 2
  have R8 := (Go.Proofs.YtlanlkpamnoekaaDoor.far3 (g := w.heap.size + 1) (g' := w.heap.size + 1 + 1) (by omega) (.int .u8 0) (.int .u8 0) (.slice none 0 0)).trans (R7.set3 s q E).at_
  have g8 := set_at (set_at (set_at (frame_far3 g7 (g' := w.heap.size + 1) (by omega) s q E) 0 (.int .u8 0)) 1 (.int .u8 0)) 2 (.slice none 0 0)
  have B8 := (((((B7.setCell (p := ⟨w.heap.size + 1, 0, none⟩) (by simp) (.int .i64 s)).setCell (p := ⟨w.heap.size + 1, 1, none⟩) (by simp) (.int .i64 q)).setCell (p := ⟨w.heap.size + 1, 2, none⟩) (by simp) (.int .i64 E)).setCell (p := ⟨w.heap.size + 1 + 1, 0, none⟩) (by simp; omega) (.int .u8 0)).setCell (p := ⟨w.heap.size + 1 + 1, 1, none⟩) (by simp; omega) (.int .u8 0)).setCell (p := ⟨w.heap.size + 1 + 1, 2, none⟩) (by simp; omega) (.slice none 0 0)
  have HR := Lib.hid R8
  have HG := Lib.hid g8
  have HB := Lib.hid B8
  clear R8 g8 B8 R7 g7 B7 R6 g6 B6
  go_wp2
  rw [Exit.noGoto_ret]
  have x1 := HR.out
  have x2 := HG.out
  have x3 := HB.out
  clear HR HG HB
  exact bodyPost_ret (res_hear (t := 6) (u := 7) (v := 8) (g := w.heap.size + 1) (g' := w.heap.size + 1 + 1) rfl rfl rfl x1 x2) rfl ⟨x3, by unfold HearOut; rw [if_neg (by rw [hr]; simp), if_neg (by rw [hb]; simp), if_pos (by rw [hb, ← HK.out]; exact hkk), hE]; rfl⟩
set_option maxHeartbeats 1000000 in
theorem Hear_seq (s q e kind : Int) (v : Value) (b : List (BitVec 8)) (k n : BitVec 8) (p : List (BitVec 8)) (k' n' : Int) (w : World) (hT : Tops w) (hs : SliceAt w 1 v b.length (u8s b)) (hl2 : b.length ≤ 140737488355328) (hr : rightL s q e = true) (hb : takeV b = (k, n, p, 0)) (hk' : k' = k.toNat) (hn' : n' = n.toNat) (hkk : k' = kind) (hs0 : 0 ≤ s) (hnew : newer n' s = false) :
    Calls Tryd.prog 11 #[lk s q e, .int .u8 kind, v] w fun x w' => Below w.heap.size w w' ∧ HearOut w.heap.size s q e kind b x w' := by
  have hs256 : s < 256 := by unfold rightL at hr; simp at hr; omega
  have hn0 : 0 ≤ n' ∧ n' < 256 := by have := n.isLt; omega
  have b1 := below_new w (.cells #[.int .i64 s, .int .i64 q, .int .i64 e] 31)
  have V0 := LVar.new w s q e
  have x0 := V0.c0
  have x1 := V0.c1
  have x2 := V0.c2
  go_enter Tryd.func11, Tryd.ntmps11
  go_wp2_with fail
  have b2 := below_new (w.alloc (.cells #[.int .i64 s, .int .i64 q, .int .i64 e] 31)) (.cells #[.int .i64 0, .int .i64 0, .int .i64 0] 31)
  have R0 := LVar.new (w.alloc (.cells #[.int .i64 s, .int .i64 q, .int .i64 e] 31)) 0 0 0
  have V1 := V0.later b2
  have B1 := below_step b1 b2
  simp only [World.size_alloc] at R0
  clear x0 x1 x2 V0 b1 b2
  generalize hw1 : (w.alloc (.cells #[.int .i64 s, .int .i64 q, .int .i64 e] 31)).alloc (.cells #[.int .i64 0, .int .i64 0, .int .i64 0] 31) = w1 at *
  have hs1 : w1.heap.size = w.heap.size + 1 + 1 := by rw [← hw1]; simp
  clear hw1
  have b3 := below_new w1 (.cells #[.int .u8 0, .int .u8 0, .slice none 0 0] 41)
  have g2 : (w1.alloc (.cells #[.int .u8 0, .int .u8 0, .slice none 0 0] 41)).heap[w1.heap.size]? = some _ := new_at rfl _
  rw [hs1] at g2
  have V2 := V1.later b3
  have R2 := R0.later b3
  have B2 := below_step B1 b3
  have hs2 : (w1.alloc (.cells #[.int .u8 0, .int .u8 0, .slice none 0 0] 41)).heap.size = w.heap.size + 1 + 1 + 1 := by simp [hs1]
  have hT2 := hT.below B2
  clear V1 R0 B1 b3
  generalize hw2 : w1.alloc (.cells #[.int .u8 0, .int .u8 0, .slice none 0 0] 41) = W at *
  clear hw2 hs1
  have HS := Lib.hid hs2
  clear hs2
  have v0 := V2.c0
  have v1 := V2.c1
  have v2 := V2.c2
  have r0 := R2.c0
  have r1 := R2.c1
  have r2 := R2.c2
  have f0 := cell_at g2 0
  have f1 := cell_at g2 1
  have f2 := cell_at g2 2
  have e0 := free_at R2.at_ 0
  have e1 := free_at R2.at_ 1
  have e2 := free_at R2.at_ 2
  refine wp_scope_fwd 0 (by simp only [findLabel]; rfl) ?_
  go_wp2_with fail
  have R3 := R2.set3 s q e
  have B3 := ((B2.setCell (p := ⟨w.heap.size + 1, 0, none⟩) (by simp) (.int .i64 s)).setCell (p := ⟨w.heap.size + 1, 1, none⟩) (by simp) (.int .i64 q)).setCell (p := ⟨w.heap.size + 1, 2, none⟩) (by simp) (.int .i64 e)
  have V3 := V2.far3 (g' := w.heap.size + 1) (by omega) s q e
  have g3 := frame_far3 g2 (g' := w.heap.size + 1) (by omega) s q e
  have hT3 := hT.below B3
  have hs3 : (((W.setCell ⟨w.heap.size + 1, 0, none⟩ (.int .i64 s)).setCell ⟨w.heap.size + 1, 1, none⟩ (.int .i64 q)).setCell ⟨w.heap.size + 1, 2, none⟩ (.int .i64 e)).heap.size = w.heap.size + 1 + 1 + 1 := by simpa using HS.out
  clear v0 v1 v2 r0 r1 r2 f0 f1 f2 e0 e1 e2 g2 V2 R2 B2 hT2 HS
  generalize ((W.setCell ⟨w.heap.size + 1, 0, none⟩ (.int .i64 s)).setCell ⟨w.heap.size + 1, 1, none⟩ (.int .i64 q)).setCell ⟨w.heap.size + 1, 2, none⟩ (.int .i64 e) = W3 at *
  clear W
  refine (link_Right_c s q e W3 true hr.symm hT3).mono ?_
  rintro x W4 ⟨rfl, b4⟩
  have V := V3.later b4
  have R := R3.later b4
  have g := below_at b4 g3 (by omega)
  have B := B3.trans (b4.mono (by omega))
  clear V3 R3 g3 B3 hT3 hs3 b4
  have v0 := V.c0
  have v1 := V.c1
  have v2 := V.c2
  have r0 := R.c0
  have r1 := R.c1
  have r2 := R.c2
  have f0 := cell_at g 0
  have f1 := cell_at g 1
  have f2 := cell_at g 2
  have e0 := free_at R.at_ 0
  have e1 := free_at R.at_ 1
  have e2 := free_at R.at_ 2
  have h0 := free_at g 0
  have h1 := free_at g 1
  have h2 := free_at g 2
  have hsl := hs.later B
  go_wp2_with fail
  have hg4 := lt_of_at g
  refine (Take_yesF k n k' n' v p b W4 hk' hn' hsl hb hl2).mono ?_
  rintro x W5 ⟨b5, A, c, rfl, hp5, hf5⟩
  have V := V.later b5
  have R := R.later b5
  have g := below_at b5 g (lt_of_at g)
  have B := below_step B b5
  have v0 := V.c0
  have v1 := V.c1
  have v2 := V.c2
  have r0 := R.c0
  have r1 := R.c1
  have r2 := R.c2
  have f0 := cell_at g 0
  have f1 := cell_at g 1
  have f2 := cell_at g 2
  have e0 := free_at R.at_ 0
  have e1 := free_at R.at_ 1
  have e2 := free_at R.at_ 2
  have h0 := free_at g 0
  have h1 := free_at g 1
  have h2 := free_at g 2
  have R' := (Go.Proofs.YtlanlkpamnoekaaDoor.far3 (g := w.heap.size + 1) (g' := w.heap.size + 1 + 1) (by omega) (.int .u8 k') (.int .u8 n') (.slice A p.length c)).trans R.at_
  have V' := (Go.Proofs.YtlanlkpamnoekaaDoor.far3 (g := w.heap.size) (g' := w.heap.size + 1 + 1) (by omega) (.int .u8 k') (.int .u8 n') (.slice A p.length c)).trans V.at_
  have g' := set_at (set_at (set_at g 0 (.int .u8 k')) 1 (.int .u8 n')) 2 (.slice A p.length c)
  have B' := ((B.setCell (p := ⟨w.heap.size + 1 + 1, 0, none⟩) (by simp; omega) (.int .u8 k')).setCell (p := ⟨w.heap.size + 1 + 1, 1, none⟩) (by simp; omega) (.int .u8 n')).setCell (p := ⟨w.heap.size + 1 + 1, 2, none⟩) (by simp; omega) (.slice A p.length c)
  have hp' : SliceAt (((W5.setCell ⟨w.heap.size + 1 + 1, 0, none⟩ (.int .u8 k')).setCell ⟨w.heap.size + 1 + 1, 1, none⟩ (.int .u8 n')).setCell ⟨w.heap.size + 1 + 1, 2, none⟩ (.slice A p.length c)) 1 (.slice A p.length c) p.length (u8s p) := slice_keep hp5 ((((Keep.refl (fun q => q ≠ w.heap.size + 1 + 1) W5).setCell (fun _ h => h rfl) _).setCell (fun _ h => h rfl) _).setCell (fun _ h => h rfl) _) (fun q hq => by have := hf5 q hq; omega)
  clear V
  have HV := Lib.hid V'
  have HR := Lib.hid R'
  have HG := Lib.hid g'
  have HB := Lib.hid B'
  have HP := Lib.hid hp'
  have hf6 : ∀ q', VB (.slice A p.length c) p.length q' → w.heap.size + 1 + 1 < q' := fun q' hq => by have := hf5 q' hq; omega
  have HF := Lib.hid hf6
  clear hf6
  have HK := Lib.hid hk'
  have HN := Lib.hid hn'
  clear V' R' g' B' hp' hp5 hf5 hg4 R g B hk' hn'
  have q3 : (k' != kind) = false := by simpa using hkk
  have q4 : decide (0 ≤ s) = true := decide_eq_true hs0
  have q5 : IntKind.u8.wrap s = s := by unfold IntKind.wrap; simp [IntKind.signed, IntKind.bits]; omega
  have HN2 := Lib.hid hnew
  have HKK := Lib.hid hkk
  have HS0 := Lib.hid hs0
  clear hnew hkk hs0
  go_wp2_with fail
  refine (Newer_g n' s false _ HN2.out.symm hn0.1 hn0.2 HS0.out hs256).mono ?_
  rintro x W6 ⟨rfl, rfl⟩
  have hnew := HN2.out
  have hkk := HKK.out
  have hs0 := HS0.out
  clear HN2 HKK HS0
  have HN2 := Lib.hid hnew
  have HKK := Lib.hid hkk
  have HS0 := Lib.hid hs0
  clear hnew hkk hs0
  go_wp2
  go_step3
  go_wp2
  have hnew := HN2.out
  have hs0 := HS0.out
  clear v0 v1 v2 r0 r1 r2 f0 f1 f2 e0 e1 e2 h0 h1 h2
  generalize ((W5.setCell ⟨w.heap.size + 1 + 1, 0, none⟩ (.int .u8 k')).setCell ⟨w.heap.size + 1 + 1, 1, none⟩ (.int .u8 n')).setCell ⟨w.heap.size + 1 + 1, 2, none⟩ (.slice A p.length c) = W9 at *
  have V : LVar W9 w.heap.size s q e := ⟨HV.out⟩
  have R : LVar W9 (w.heap.size + 1) s q e := ⟨HR.out⟩
  have g := HG.out
  have B := HB.out
  simp only [List.setIfInBounds_toArray, List.set_cons_zero, List.set_cons_succ] at g
  clear HV HR HG HB
  have hp := HP.out
  clear HP
  have hkk := HKK.out
  have HS0 := Lib.hid hs0
  have HN2 := Lib.hid hnew
  clear hkk hs0 hnew
  clear v0 v1 v2 r0 r1 r2 f0 f1 f2 e0 e1 e2 h0 h1 h2
  have hT9 := hT.below B
  have r2 := R.c2
  rw [jump_goto]
  go_wp2_with fail
  refine (More_c e 1 _ hT9).mono ?_
  rintro x W6 ⟨rfl, b6⟩
  have R6 := R.later b6
  have g6 := below_at b6 g (lt_of_at g)
  have B6 := below_step B b6
  clear r2 R g B hT9 b6
  generalize hE : onV e 1 65535 = E at *
  have R7 := R6.set1 E
  have g7 := frame_far1 g6 (i := 2) (g' := w.heap.size + 1) (by omega) (.int .i64 E)
  have B7 := B6.setCell (p := ⟨w.heap.size + 1, 2, none⟩) (by simp) (.int .i64 E)
  have k2 := free_at R6.at_ 2
  have r0 := R6.c0
  have r1 := R6.c1
  have r2 := R6.c2
  have e0 := free_at R6.at_ 0
  have e1 := free_at R6.at_ 1
  have h0 := free_at g6 0
  have h1 := free_at g6 1
  have h2 := free_at g6 2
  have f0 := cell_at g6 0
  have f1 := cell_at g6 1
  have f2 := cell_at g6 2
  have R8 := (Go.Proofs.YtlanlkpamnoekaaDoor.far3 (g := w.heap.size + 1) (g' := w.heap.size + 1 + 1) (by omega) (.int .u8 0) (.int .u8 0) (.slice none 0 0)).trans (R7.set3 s q E).at_
  have g8 := set_at (set_at (set_at (frame_far3 g7 (g' := w.heap.size + 1) (by omega) s q E) 0 (.int .u8 0)) 1 (.int .u8 0)) 2 (.slice none 0 0)
  have B8 := (((((B7.setCell (p := ⟨w.heap.size + 1, 0, none⟩) (by simp) (.int .i64 s)).setCell (p := ⟨w.heap.size + 1, 1, none⟩) (by simp) (.int .i64 q)).setCell (p := ⟨w.heap.size + 1, 2, none⟩) (by simp) (.int .i64 E)).setCell (p := ⟨w.heap.size + 1 + 1, 0, none⟩) (by simp; omega) (.int .u8 0)).setCell (p := ⟨w.heap.size + 1 + 1, 1, none⟩) (by simp; omega) (.int .u8 0)).setCell (p := ⟨w.heap.size + 1 + 1, 2, none⟩) (by simp; omega) (.slice none 0 0)
  have HR := Lib.hid R8
  have HG := Lib.hid g8
  have HB := Lib.hid B8
  clear R8 g8 B8 R7 g7 B7 R6 g6 B6
  go_wp2
  rw [Exit.noGoto_ret]
  have x1 := HR.out
  have x2 := HG.out
  have x3 := HB.out
  clear HR HG HB
  exact bodyPost_ret (res_hear (t := 6) (u := 7) (v := 8) (g := w.heap.size + 1) (g' := w.heap.size + 1 + 1) rfl rfl rfl x1 x2) rfl ⟨x3, by unfold HearOut; rw [if_neg (by rw [hr]; simp), if_neg (by rw [hb]; simp), if_neg (by rw [hb, ← HK.out]; simpa using HKK.out), if_pos (by rw [hb, ← HN.out]; exact ⟨HS0.out, HN2.out⟩), hE]; rfl⟩
set_option maxHeartbeats 1000000 in
theorem Hear_yes (s q e kind : Int) (v : Value) (b : List (BitVec 8)) (k n : BitVec 8) (p : List (BitVec 8)) (k' n' : Int) (w : World) (hT : Tops w) (hs : SliceAt w 1 v b.length (u8s b)) (hl2 : b.length ≤ 140737488355328) (hr : rightL s q e = true) (hb : takeV b = (k, n, p, 0)) (hk' : k' = k.toNat) (hn' : n' = n.toNat) (hkk : k' = kind) (hnew : ¬ (0 ≤ s ∧ newer n' s = false)) :
    Calls Tryd.prog 11 #[lk s q e, .int .u8 kind, v] w fun x w' => Below w.heap.size w w' ∧ HearOut w.heap.size s q e kind b x w' := by
  have hs256 : s < 256 := by unfold rightL at hr; simp at hr; omega
  have hn0 : 0 ≤ n' ∧ n' < 256 := by have := n.isLt; omega
  have b1 := below_new w (.cells #[.int .i64 s, .int .i64 q, .int .i64 e] 31)
  have V0 := LVar.new w s q e
  have x0 := V0.c0
  have x1 := V0.c1
  have x2 := V0.c2
  go_enter Tryd.func11, Tryd.ntmps11
  go_wp2_with fail
  have b2 := below_new (w.alloc (.cells #[.int .i64 s, .int .i64 q, .int .i64 e] 31)) (.cells #[.int .i64 0, .int .i64 0, .int .i64 0] 31)
  have R0 := LVar.new (w.alloc (.cells #[.int .i64 s, .int .i64 q, .int .i64 e] 31)) 0 0 0
  have V1 := V0.later b2
  have B1 := below_step b1 b2
  simp only [World.size_alloc] at R0
  clear x0 x1 x2 V0 b1 b2
  generalize hw1 : (w.alloc (.cells #[.int .i64 s, .int .i64 q, .int .i64 e] 31)).alloc (.cells #[.int .i64 0, .int .i64 0, .int .i64 0] 31) = w1 at *
  have hs1 : w1.heap.size = w.heap.size + 1 + 1 := by rw [← hw1]; simp
  clear hw1
  have b3 := below_new w1 (.cells #[.int .u8 0, .int .u8 0, .slice none 0 0] 41)
  have g2 : (w1.alloc (.cells #[.int .u8 0, .int .u8 0, .slice none 0 0] 41)).heap[w1.heap.size]? = some _ := new_at rfl _
  rw [hs1] at g2
  have V2 := V1.later b3
  have R2 := R0.later b3
  have B2 := below_step B1 b3
  have hs2 : (w1.alloc (.cells #[.int .u8 0, .int .u8 0, .slice none 0 0] 41)).heap.size = w.heap.size + 1 + 1 + 1 := by simp [hs1]
  have hT2 := hT.below B2
  clear V1 R0 B1 b3
  generalize hw2 : w1.alloc (.cells #[.int .u8 0, .int .u8 0, .slice none 0 0] 41) = W at *
  clear hw2 hs1
  have HS := Lib.hid hs2
  clear hs2
  have v0 := V2.c0
  have v1 := V2.c1
  have v2 := V2.c2
  have r0 := R2.c0
  have r1 := R2.c1
  have r2 := R2.c2
  have f0 := cell_at g2 0
  have f1 := cell_at g2 1
  have f2 := cell_at g2 2
  have e0 := free_at R2.at_ 0
  have e1 := free_at R2.at_ 1
  have e2 := free_at R2.at_ 2
  refine wp_scope_fwd 0 (by simp only [findLabel]; rfl) ?_
  go_wp2_with fail
  have R3 := R2.set3 s q e
  have B3 := ((B2.setCell (p := ⟨w.heap.size + 1, 0, none⟩) (by simp) (.int .i64 s)).setCell (p := ⟨w.heap.size + 1, 1, none⟩) (by simp) (.int .i64 q)).setCell (p := ⟨w.heap.size + 1, 2, none⟩) (by simp) (.int .i64 e)
  have V3 := V2.far3 (g' := w.heap.size + 1) (by omega) s q e
  have g3 := frame_far3 g2 (g' := w.heap.size + 1) (by omega) s q e
  have hT3 := hT.below B3
  have hs3 : (((W.setCell ⟨w.heap.size + 1, 0, none⟩ (.int .i64 s)).setCell ⟨w.heap.size + 1, 1, none⟩ (.int .i64 q)).setCell ⟨w.heap.size + 1, 2, none⟩ (.int .i64 e)).heap.size = w.heap.size + 1 + 1 + 1 := by simpa using HS.out
  clear v0 v1 v2 r0 r1 r2 f0 f1 f2 e0 e1 e2 g2 V2 R2 B2 hT2 HS
  generalize ((W.setCell ⟨w.heap.size + 1, 0, none⟩ (.int .i64 s)).setCell ⟨w.heap.size + 1, 1, none⟩ (.int .i64 q)).setCell ⟨w.heap.size + 1, 2, none⟩ (.int .i64 e) = W3 at *
  clear W
  refine (link_Right_c s q e W3 true hr.symm hT3).mono ?_
  rintro x W4 ⟨rfl, b4⟩
  have V := V3.later b4
  have R := R3.later b4
  have g := below_at b4 g3 (by omega)
  have B := B3.trans (b4.mono (by omega))
  clear V3 R3 g3 B3 hT3 hs3 b4
  have v0 := V.c0
  have v1 := V.c1
  have v2 := V.c2
  have r0 := R.c0
  have r1 := R.c1
  have r2 := R.c2
  have f0 := cell_at g 0
  have f1 := cell_at g 1
  have f2 := cell_at g 2
  have e0 := free_at R.at_ 0
  have e1 := free_at R.at_ 1
  have e2 := free_at R.at_ 2
  have h0 := free_at g 0
  have h1 := free_at g 1
  have h2 := free_at g 2
  have hsl := hs.later B
  go_wp2_with fail
  have hg4 := lt_of_at g
  refine (Take_yesF k n k' n' v p b W4 hk' hn' hsl hb hl2).mono ?_
  rintro x W5 ⟨b5, A, c, rfl, hp5, hf5⟩
  have V := V.later b5
  have R := R.later b5
  have g := below_at b5 g (lt_of_at g)
  have B := below_step B b5
  have v0 := V.c0
  have v1 := V.c1
  have v2 := V.c2
  have r0 := R.c0
  have r1 := R.c1
  have r2 := R.c2
  have f0 := cell_at g 0
  have f1 := cell_at g 1
  have f2 := cell_at g 2
  have e0 := free_at R.at_ 0
  have e1 := free_at R.at_ 1
  have e2 := free_at R.at_ 2
  have h0 := free_at g 0
  have h1 := free_at g 1
  have h2 := free_at g 2
  have R' := (Go.Proofs.YtlanlkpamnoekaaDoor.far3 (g := w.heap.size + 1) (g' := w.heap.size + 1 + 1) (by omega) (.int .u8 k') (.int .u8 n') (.slice A p.length c)).trans R.at_
  have V' := (Go.Proofs.YtlanlkpamnoekaaDoor.far3 (g := w.heap.size) (g' := w.heap.size + 1 + 1) (by omega) (.int .u8 k') (.int .u8 n') (.slice A p.length c)).trans V.at_
  have g' := set_at (set_at (set_at g 0 (.int .u8 k')) 1 (.int .u8 n')) 2 (.slice A p.length c)
  have B' := ((B.setCell (p := ⟨w.heap.size + 1 + 1, 0, none⟩) (by simp; omega) (.int .u8 k')).setCell (p := ⟨w.heap.size + 1 + 1, 1, none⟩) (by simp; omega) (.int .u8 n')).setCell (p := ⟨w.heap.size + 1 + 1, 2, none⟩) (by simp; omega) (.slice A p.length c)
  have hp' : SliceAt (((W5.setCell ⟨w.heap.size + 1 + 1, 0, none⟩ (.int .u8 k')).setCell ⟨w.heap.size + 1 + 1, 1, none⟩ (.int .u8 n')).setCell ⟨w.heap.size + 1 + 1, 2, none⟩ (.slice A p.length c)) 1 (.slice A p.length c) p.length (u8s p) := slice_keep hp5 ((((Keep.refl (fun q => q ≠ w.heap.size + 1 + 1) W5).setCell (fun _ h => h rfl) _).setCell (fun _ h => h rfl) _).setCell (fun _ h => h rfl) _) (fun q hq => by have := hf5 q hq; omega)
  clear V
  have HV := Lib.hid V'
  have HR := Lib.hid R'
  have HG := Lib.hid g'
  have HB := Lib.hid B'
  have HP := Lib.hid hp'
  have hf6 : ∀ q', VB (.slice A p.length c) p.length q' → w.heap.size + 1 + 1 < q' := fun q' hq => by have := hf5 q' hq; omega
  have HF := Lib.hid hf6
  clear hf6
  have HK := Lib.hid hk'
  have HN := Lib.hid hn'
  clear V' R' g' B' hp' hp5 hf5 hg4 R g B hk' hn'
  have q3 : (k' != kind) = false := by simpa using hkk
  have q5 : 0 ≤ s → IntKind.u8.wrap s = s := fun h => by unfold IntKind.wrap; simp [IntKind.signed, IntKind.bits]; omega
  have q6 : IntKind.i64.wrap n' = n' := IntWalk.i64_in _ (by omega)
  have HN2 := Lib.hid hnew
  have HKK := Lib.hid hkk
  have HQ5 := Lib.hid q5
  clear hkk q5
  rcases (show s < 0 ∨ 0 ≤ s by omega) with hs0 | hs0
  · have q4 : decide (0 ≤ s) = false := decide_eq_false (by omega)
    have HS0 := Lib.hid hs0
    clear hnew hs0
    go_wp2_with fail
    clear v0 v1 v2 r0 r1 r2 f0 f1 f2 e0 e1 e2 h0 h1 h2
    generalize ((W5.setCell ⟨w.heap.size + 1 + 1, 0, none⟩ (.int .u8 k')).setCell ⟨w.heap.size + 1 + 1, 1, none⟩ (.int .u8 n')).setCell ⟨w.heap.size + 1 + 1, 2, none⟩ (.slice A p.length c) = W9 at *
    have V : LVar W9 w.heap.size s q e := ⟨HV.out⟩
    have R : LVar W9 (w.heap.size + 1) s q e := ⟨HR.out⟩
    have g := HG.out
    have B := HB.out
    simp only [List.setIfInBounds_toArray, List.set_cons_zero, List.set_cons_succ] at g
    clear HV HR HG HB
    have hf := HF.out
    have hp := HP.out
    clear HP
    clear V
    have R7 := R.set01 n' 0
    have g7 := frame_far1 (i := 1) (frame_far1 (i := 0) g (g' := w.heap.size + 1) (by omega) (.int .i64 n')) (g' := w.heap.size + 1) (by omega) (.int .i64 0)
    have B7 := (B.setCell (p := ⟨w.heap.size + 1, 0, none⟩) (by simp) (.int .i64 n')).setCell (p := ⟨w.heap.size + 1, 1, none⟩) (by simp) (.int .i64 0)
    have p7 := slice_keep hp (((Keep.refl (fun q => q ≠ w.heap.size + 1) W9).setCell (p := ⟨w.heap.size + 1, 0, none⟩) (fun _ h => h rfl) (.int .i64 n')).setCell (p := ⟨w.heap.size + 1, 1, none⟩) (fun _ h => h rfl) (.int .i64 0)) (fun q hq => by have := hf q hq; omega)
    clear R g B hp
    generalize (W9.setCell ⟨w.heap.size + 1, 0, none⟩ (.int .i64 n')).setCell ⟨w.heap.size + 1, 1, none⟩ (.int .i64 0) = W7 at *
    have r0 := R7.c0
    have r1 := R7.c1
    have r2 := R7.c2
    have f0 := cell_at g7 0
    have f1 := cell_at g7 1
    have f2 := cell_at g7 2
    have e0 := free_at R7.at_ 0
    have e1 := free_at R7.at_ 1
    have e2 := free_at R7.at_ 2
    have h0 := free_at g7 0
    have h1 := free_at g7 1
    have h2 := free_at g7 2
    have RR := R7.set3 n' 0 e
    have BB := ((B7.setCell (p := ⟨w.heap.size + 1, 0, none⟩) (by simp) (.int .i64 n')).setCell (p := ⟨w.heap.size + 1, 1, none⟩) (by simp) (.int .i64 0)).setCell (p := ⟨w.heap.size + 1, 2, none⟩) (by simp) (.int .i64 e)
    have gg := frame_far3 g7 (g' := w.heap.size + 1) (by omega) n' 0 e
    have RR' := (Go.Proofs.YtlanlkpamnoekaaDoor.far3 (g := w.heap.size + 1) (g' := w.heap.size + 1 + 1) (by omega) (.int .u8 k') (.int .u8 n') (.slice A p.length c)).trans RR.at_
    have gg' := set_at (set_at (set_at gg 0 (.int .u8 k')) 1 (.int .u8 n')) 2 (.slice A p.length c)
    have BB' := ((BB.setCell (p := ⟨w.heap.size + 1 + 1, 0, none⟩) (by simp; omega) (.int .u8 k')).setCell (p := ⟨w.heap.size + 1 + 1, 1, none⟩) (by simp; omega) (.int .u8 n')).setCell (p := ⟨w.heap.size + 1 + 1, 2, none⟩) (by simp; omega) (.slice A p.length c)
    have pp' := slice_keep p7 ((((((((Keep.refl (fun q => w.heap.size + 1 + 1 < q) W7).setCell (p := ⟨w.heap.size + 1, 0, none⟩) (fun _ h => by simp at h; omega) (.int .i64 n')).setCell (p := ⟨w.heap.size + 1, 1, none⟩) (fun _ h => by simp at h; omega) (.int .i64 0)).setCell (p := ⟨w.heap.size + 1, 2, none⟩) (fun _ h => by simp at h; omega) (.int .i64 e)).setCell (p := ⟨w.heap.size + 1 + 1, 0, none⟩) (fun _ h => by simp at h) (.int .u8 k')).setCell (p := ⟨w.heap.size + 1 + 1, 1, none⟩) (fun _ h => by simp at h) (.int .u8 n')).setCell (p := ⟨w.heap.size + 1 + 1, 2, none⟩) (fun _ h => by simp at h) (.slice A p.length c))) hf
    have HR := Lib.hid RR'
    have HG := Lib.hid gg'
    have HB := Lib.hid BB'
    have HP := Lib.hid pp'
    clear RR BB gg RR' gg' BB' pp' hf R7 g7 B7 p7
    go_region
    go_wp2
    rw [jump_ret]
    generalize (((((W7.setCell ⟨w.heap.size + 1, 0, none⟩ (.int .i64 n')).setCell ⟨w.heap.size + 1, 1, none⟩ (.int .i64 0)).setCell ⟨w.heap.size + 1, 2, none⟩ (.int .i64 e)).setCell ⟨w.heap.size + 1 + 1, 0, none⟩ (.int .u8 k')).setCell ⟨w.heap.size + 1 + 1, 1, none⟩ (.int .u8 n')).setCell ⟨w.heap.size + 1 + 1, 2, none⟩ (.slice A p.length c) = W8 at *
    clear r0 r1 r2 f0 f1 f2 e0 e1 e2 h0 h1 h2
    have x1 := HR.out
    have x2 := HG.out
    have x3 := HB.out
    have y3 := HP.out
    clear HR HG HB HP
    have y4 : SliceAt W8.drew 1 (.slice A p.length c) p.length (u8s p) := y3.later (Below.refl _ _).drew
    exact bodyPost_ret (res_hear (t := 6) (u := 7) (v := 8) (W := W8.drew) (g := w.heap.size + 1) (g' := w.heap.size + 1 + 1) rfl rfl rfl x1 x2) rfl ⟨x3.drew, by unfold HearOut; rw [if_neg (by rw [hr]; simp), if_neg (by rw [hb]; simp), if_neg (by rw [hb, ← HK.out]; simpa using HKK.out), if_neg (by rw [hb, ← HN.out]; exact HN2.out)]; rw [hb, ← HK.out, ← HN.out]; exact ⟨A, c, rfl, y4, fun q' hq => by have := HF.out q' hq; omega⟩⟩
  · have q4 : decide (0 ≤ s) = true := decide_eq_true hs0
    have q5 := HQ5.out hs0
    have hnw : newer n' s = true := by cases h : newer n' s <;> simp_all
    have HS0 := Lib.hid hs0
    have HNW := Lib.hid hnw
    clear hnew hs0 hnw
    go_wp2_with fail
    refine (Newer_g n' s true _ HNW.out.symm hn0.1 hn0.2 HS0.out hs256).mono ?_
    rintro x W6 ⟨rfl, rfl⟩
    go_wp2_with fail
    clear v0 v1 v2 r0 r1 r2 f0 f1 f2 e0 e1 e2 h0 h1 h2
    generalize ((W5.setCell ⟨w.heap.size + 1 + 1, 0, none⟩ (.int .u8 k')).setCell ⟨w.heap.size + 1 + 1, 1, none⟩ (.int .u8 n')).setCell ⟨w.heap.size + 1 + 1, 2, none⟩ (.slice A p.length c) = W9 at *
    have V : LVar W9 w.heap.size s q e := ⟨HV.out⟩
    have R : LVar W9 (w.heap.size + 1) s q e := ⟨HR.out⟩
    have g := HG.out
    have B := HB.out
    simp only [List.setIfInBounds_toArray, List.set_cons_zero, List.set_cons_succ] at g
    clear HV HR HG HB
    have hf := HF.out
    have hp := HP.out
    clear HP
    clear V
    have R7 := R.set01 n' 0
    have g7 := frame_far1 (i := 1) (frame_far1 (i := 0) g (g' := w.heap.size + 1) (by omega) (.int .i64 n')) (g' := w.heap.size + 1) (by omega) (.int .i64 0)
    have B7 := (B.setCell (p := ⟨w.heap.size + 1, 0, none⟩) (by simp) (.int .i64 n')).setCell (p := ⟨w.heap.size + 1, 1, none⟩) (by simp) (.int .i64 0)
    have p7 := slice_keep hp (((Keep.refl (fun q => q ≠ w.heap.size + 1) W9).setCell (p := ⟨w.heap.size + 1, 0, none⟩) (fun _ h => h rfl) (.int .i64 n')).setCell (p := ⟨w.heap.size + 1, 1, none⟩) (fun _ h => h rfl) (.int .i64 0)) (fun q hq => by have := hf q hq; omega)
    clear R g B hp
    generalize (W9.setCell ⟨w.heap.size + 1, 0, none⟩ (.int .i64 n')).setCell ⟨w.heap.size + 1, 1, none⟩ (.int .i64 0) = W7 at *
    have r0 := R7.c0
    have r1 := R7.c1
    have r2 := R7.c2
    have f0 := cell_at g7 0
    have f1 := cell_at g7 1
    have f2 := cell_at g7 2
    have e0 := free_at R7.at_ 0
    have e1 := free_at R7.at_ 1
    have e2 := free_at R7.at_ 2
    have h0 := free_at g7 0
    have h1 := free_at g7 1
    have h2 := free_at g7 2
    have RR := R7.set3 n' 0 e
    have BB := ((B7.setCell (p := ⟨w.heap.size + 1, 0, none⟩) (by simp) (.int .i64 n')).setCell (p := ⟨w.heap.size + 1, 1, none⟩) (by simp) (.int .i64 0)).setCell (p := ⟨w.heap.size + 1, 2, none⟩) (by simp) (.int .i64 e)
    have gg := frame_far3 g7 (g' := w.heap.size + 1) (by omega) n' 0 e
    have RR' := (Go.Proofs.YtlanlkpamnoekaaDoor.far3 (g := w.heap.size + 1) (g' := w.heap.size + 1 + 1) (by omega) (.int .u8 k') (.int .u8 n') (.slice A p.length c)).trans RR.at_
    have gg' := set_at (set_at (set_at gg 0 (.int .u8 k')) 1 (.int .u8 n')) 2 (.slice A p.length c)
    have BB' := ((BB.setCell (p := ⟨w.heap.size + 1 + 1, 0, none⟩) (by simp; omega) (.int .u8 k')).setCell (p := ⟨w.heap.size + 1 + 1, 1, none⟩) (by simp; omega) (.int .u8 n')).setCell (p := ⟨w.heap.size + 1 + 1, 2, none⟩) (by simp; omega) (.slice A p.length c)
    have pp' := slice_keep p7 ((((((((Keep.refl (fun q => w.heap.size + 1 + 1 < q) W7).setCell (p := ⟨w.heap.size + 1, 0, none⟩) (fun _ h => by simp at h; omega) (.int .i64 n')).setCell (p := ⟨w.heap.size + 1, 1, none⟩) (fun _ h => by simp at h; omega) (.int .i64 0)).setCell (p := ⟨w.heap.size + 1, 2, none⟩) (fun _ h => by simp at h; omega) (.int .i64 e)).setCell (p := ⟨w.heap.size + 1 + 1, 0, none⟩) (fun _ h => by simp at h) (.int .u8 k')).setCell (p := ⟨w.heap.size + 1 + 1, 1, none⟩) (fun _ h => by simp at h) (.int .u8 n')).setCell (p := ⟨w.heap.size + 1 + 1, 2, none⟩) (fun _ h => by simp at h) (.slice A p.length c))) hf
    have HR := Lib.hid RR'
    have HG := Lib.hid gg'
    have HB := Lib.hid BB'
    have HP := Lib.hid pp'
    clear RR BB gg RR' gg' BB' pp' hf R7 g7 B7 p7
    go_region
    go_wp2
    rw [jump_ret]
    generalize (((((W7.setCell ⟨w.heap.size + 1, 0, none⟩ (.int .i64 n')).setCell ⟨w.heap.size + 1, 1, none⟩ (.int .i64 0)).setCell ⟨w.heap.size + 1, 2, none⟩ (.int .i64 e)).setCell ⟨w.heap.size + 1 + 1, 0, none⟩ (.int .u8 k')).setCell ⟨w.heap.size + 1 + 1, 1, none⟩ (.int .u8 n')).setCell ⟨w.heap.size + 1 + 1, 2, none⟩ (.slice A p.length c) = W8 at *
    clear r0 r1 r2 f0 f1 f2 e0 e1 e2 h0 h1 h2
    have x1 := HR.out
    have x2 := HG.out
    have x3 := HB.out
    have y3 := HP.out
    clear HR HG HB HP
    have y4 : SliceAt W8.drew 1 (.slice A p.length c) p.length (u8s p) := y3.later (Below.refl _ _).drew
    exact bodyPost_ret (res_hear (t := 6) (u := 7) (v := 8) (W := W8.drew) (g := w.heap.size + 1) (g' := w.heap.size + 1 + 1) rfl rfl rfl x1 x2) rfl ⟨x3.drew, by unfold HearOut; rw [if_neg (by rw [hr]; simp), if_neg (by rw [hb]; simp), if_neg (by rw [hb, ← HK.out]; simpa using HKK.out), if_neg (by rw [hb, ← HN.out]; exact HN2.out)]; rw [hb, ← HK.out, ← HN.out]; exact ⟨A, c, rfl, y4, fun q' hq => by have := HF.out q' hq; omega⟩⟩
/-- what Hear tells, whatever comes -/
theorem Hear_c (s q e kind : Int) (v : Value) (b : List (BitVec 8)) (w : World) (hT : Tops w) (hs : SliceAt w 1 v b.length (u8s b)) (hl2 : b.length ≤ 140737488355328) :
    Calls Tryd.prog 11 #[lk s q e, .int .u8 kind, v] w fun x w' => Below w.heap.size w w' ∧ HearOut w.heap.size s q e kind b x w' := by
  rcases hr : rightL s q e with _ | _
  · exact Hear_arg s q e kind v b w hT hs hl2 hr
  by_cases he : (takeV b).2.2.2 = 0
  · obtain ⟨k, n, p, er, hb⟩ : ∃ k n p er, takeV b = (k, n, p, er) := ⟨_, _, _, _, rfl⟩
    rw [hb] at he
    obtain rfl : er = 0 := he
    by_cases hk : ((k.toNat : Nat) : Int) = kind
    · by_cases hn : 0 ≤ s ∧ newer ((n.toNat : Nat) : Int) s = false
      · exact Hear_seq s q e kind v b k n p _ _ w hT hs hl2 hr hb rfl rfl hk hn.1 hn.2
      · exact Hear_yes s q e kind v b k n p _ _ w hT hs hl2 hr hb rfl rfl hk hn
    · exact Hear_form s q e kind v b k n p _ _ w hT hs hl2 hr hb rfl rfl hk
  · exact Hear_take s q e kind v b w hT hs hl2 hr he
end Go.Proofs.YtlanlkpamnoekaaDoor
namespace Go.Proofs.YtlanlkpamnoekaaDoor
open Go.RowKit Rf Mem Bv Crc Str
set_option maxRecDepth 100000

abbrev Lst := Int × Int × Int
abbrev Frm := BitVec 8 × BitVec 8 × List (BitVec 8)
def noF : Frm := (0, 0, [])
/-- what Hear tells: the link behind it, the error, the frame -/
def hearV (kind : Int) (b : List (BitVec 8)) (x : Lst) : Lst × Int × Frm :=
  if rightL x.1 x.2.1 x.2.2 = false then (x, 2, noF)
  else if (takeV b).2.2.2 ≠ 0 then ((x.1, x.2.1, onV x.2.2 1 65535), (takeV b).2.2.2, noF)
  else if ((takeV b).1.toNat : Int) ≠ kind then ((x.1, x.2.1, onV x.2.2 1 65535), 41, noF)
  else if 0 ≤ x.1 ∧ newer ((takeV b).2.1.toNat : Int) x.1 = false then ((x.1, x.2.1, onV x.2.2 1 65535), 290, noF)
  else ((((takeV b).2.1.toNat : Int), 0, x.2.2), 0, ((takeV b).1, (takeV b).2.1, (takeV b).2.2.1))
def stepV (kind : Int) (st : Lst × List Frm) (b : List (BitVec 8)) : Lst × List Frm :=
  ((hearV kind b st.1).1, if (hearV kind b st.1).2.1 = 0 then st.2 ++ [(hearV kind b st.1).2.2] else st.2)
def allV (kind : Int) (st : Lst × List Frm) (bs : List (List (BitVec 8))) : Lst × List Frm := bs.foldl (stepV kind) st

/-- a frame's value -/
abbrev fval (f : Frm) (sv : Value) : Value := fv (f.1.toNat : Int) (f.2.1.toNat : Int) sv
abbrev lkv (x : Lst) : Value := lk x.1 x.2.1 x.2.2
theorem Hear_v (x : Lst) (kind : Int) (v : Value) (b : List (BitVec 8)) (w : World) (r : Lst × Int × Frm) (hr : r = hearV kind b x) (hT : Tops w) (hs : SliceAt w 1 v b.length (u8s b)) (hl2 : b.length ≤ 140737488355328) :
    Calls Tryd.prog 11 #[lkv x, .int .u8 kind, v] w fun y w' => ∃ A c, y = .returned (.tuple #[lkv r.1, fval r.2.2 (.slice A r.2.2.2.2.length c), .int .i64 r.2.1]) ∧ Below w.heap.size w w' ∧ SliceAt w' 1 (.slice A r.2.2.2.2.length c) r.2.2.2.2.length (u8s r.2.2.2.2) ∧ ∀ q, VB (.slice A r.2.2.2.2.length c) r.2.2.2.2.length q → w.heap.size ≤ q := by
  subst hr
  refine (Hear_c x.1 x.2.1 x.2.2 kind v b w hT hs hl2).mono ?_
  rintro y w' ⟨hb, ho⟩
  unfold HearOut at ho
  unfold hearV
  split at ho
  · rename_i h
    rw [if_pos h]
    exact ⟨none, 0, ho, hb, SliceAt.nil_ _ _, fun q hq => absurd hq.1 (by simp [noF])⟩
  rename_i h
  rw [if_neg h]
  split at ho
  · rename_i h
    rw [if_pos h]
    exact ⟨none, 0, ho, hb, SliceAt.nil_ _ _, fun q hq => absurd hq.1 (by simp [noF])⟩
  rename_i h
  rw [if_neg h]
  split at ho
  · rename_i h
    rw [if_pos h]
    exact ⟨none, 0, ho, hb, SliceAt.nil_ _ _, fun q hq => absurd hq.1 (by simp [noF])⟩
  rename_i h
  rw [if_neg h]
  split at ho
  · rename_i h
    rw [if_pos h]
    exact ⟨none, 0, ho, hb, SliceAt.nil_ _ _, fun q hq => absurd hq.1 (by simp [noF])⟩
  rename_i h
  rw [if_neg h]
  obtain ⟨A, c, h1, h2, h3⟩ := ho
  exact ⟨A, c, h1, hb, h2, h3⟩

/-! ### rows of frames -/
/-- the cells of a row of frames; S: where their payloads may lie -/
def FCells (S : Nat → Prop) (w : World) : List Frm → List Value → Prop
  | [], xs => xs = []
  | f :: l, xs => ∃ A c ys, xs = .int .u8 (f.1.toNat : Int) :: .int .u8 (f.2.1.toNat : Int) :: .slice A f.2.2.length c :: ys ∧ SliceAt w 1 (.slice A f.2.2.length c) f.2.2.length (u8s f.2.2) ∧ (∀ q, VB (.slice A f.2.2.length c) f.2.2.length q → S q) ∧ FCells S w l ys
theorem FCells.map {S S' : Nat → Prop} {w w' : World} (h : ∀ v (p : List (BitVec 8)), SliceAt w 1 v p.length (u8s p) → (∀ q, VB v p.length q → S q) → SliceAt w' 1 v p.length (u8s p) ∧ ∀ q, VB v p.length q → S' q) : ∀ {l : List Frm} {xs : List Value}, FCells S w l xs → FCells S' w' l xs
  | [], _, hx => hx
  | f :: l, _, ⟨A, c, ys, e, h1, h2, h3⟩ => ⟨A, c, ys, e, (h _ _ h1 h2).1, (h _ _ h1 h2).2, h3.map h⟩
theorem FCells.later {S : Nat → Prop} {w w' : World} {l : List Frm} {xs : List Value} (h : FCells S w l xs) (hb : Below w.heap.size w w') : FCells S w' l xs := h.map fun _ _ hs hq => ⟨hs.later hb, hq⟩
theorem FCells.any {S : Nat → Prop} {w : World} {l : List Frm} {xs : List Value} (h : FCells S w l xs) : FCells (fun _ => True) w l xs := h.map fun _ _ hs _ => ⟨hs, fun _ _ => trivial⟩
theorem FCells.snoc {S : Nat → Prop} {w : World} {f : Frm} {A : Option Addr} {c : Nat} (hs : SliceAt w 1 (.slice A f.2.2.length c) f.2.2.length (u8s f.2.2)) (hq : ∀ q, VB (.slice A f.2.2.length c) f.2.2.length q → S q) : ∀ {l : List Frm} {xs : List Value}, FCells S w l xs → FCells S w (l ++ [f]) (xs ++ [.int .u8 (f.1.toNat : Int), .int .u8 (f.2.1.toNat : Int), .slice A f.2.2.length c])
  | [], _, rfl => ⟨A, c, [], rfl, hs, hq, rfl⟩
  | g :: l, _, ⟨A', c', ys, e, h1, h2, h3⟩ => ⟨A', c', ys ++ _, by rw [e]; rfl, h1, h2, h3.snoc hs hq⟩
theorem FCells.len {S : Nat → Prop} {w : World} : ∀ {l : List Frm} {xs : List Value}, FCells S w l xs → xs.length = l.length * 3
  | [], _, rfl => rfl
  | _ :: l, _, ⟨_, _, ys, e, _, _, h2⟩ => by rw [e]; simp [h2.len]; omega
theorem FCells.one {S : Nat → Prop} {w : World} : ∀ {l : List Frm} {xs : List Value}, FCells S w l xs → ∀ u ∈ xs, u.oneCell' = true
  | [], _, rfl => by simp
  | _ :: l, _, ⟨_, _, ys, e, _, _, h2⟩ => by
    rw [e]
    intro u hu
    simp only [List.mem_cons] at hu
    rcases hu with rfl | rfl | rfl | hu
    · rfl
    · rfl
    · rfl
    · exact h2.one u hu
theorem FCells.get {S : Nat → Prop} {w : World} : ∀ {l : List Frm} {xs : List Value} (_ : FCells S w l xs) (i : Nat) (f : Frm), l[i]? = some f →
    xs[i * 3]? = some (.int .u8 (f.1.toNat : Int)) ∧ xs[i * 3 + 1]? = some (.int .u8 (f.2.1.toNat : Int)) ∧ ∃ A c, xs[i * 3 + 2]? = some (.slice A f.2.2.length c) ∧ SliceAt w 1 (.slice A f.2.2.length c) f.2.2.length (u8s f.2.2)
  | [], _, _, i, f, h => by simp at h
  | g :: l, _, ⟨A, c, ys, e, h1, _, h2⟩, 0, f, h => by
    simp only [List.getElem?_cons_zero, Option.some.injEq] at h
    subst h
    rw [e]
    exact ⟨rfl, rfl, A, c, rfl, h1⟩
  | g :: l, _, ⟨A, c, ys, e, h1, _, h2⟩, i + 1, f, h => by
    have := h2.get i f (by simpa using h)
    rw [e]
    have e1 : (i + 1) * 3 = i * 3 + 1 + 1 + 1 := by omega
    have e2 : i * 3 + 1 + 1 + 1 + 1 = (i * 3 + 1) + 1 + 1 + 1 := by omega
    have e3 : i * 3 + 1 + 1 + 1 + 2 = (i * 3 + 2) + 1 + 1 + 1 := by omega
    rw [e1, e2, e3]
    simpa using this
/-- a row of frames that was told -/
def FrsAt (w : World) (v : Value) (l : List Frm) : Prop := ∃ xs, SliceAt w 3 v l.length xs ∧ FCells (fun _ => True) w l xs
theorem FrsAt.later {w w' : World} {v : Value} {l : List Frm} (h : FrsAt w v l) (hb : Below w.heap.size w w') : FrsAt w' v l := by
  obtain ⟨xs, h1, h2⟩ := h
  exact ⟨xs, h1.later hb, h2.later hb⟩

/-- a row of rows of bytes -/
def Els (W : World) : List Value → List (List (BitVec 8)) → Prop
  | [], [] => True
  | u :: us, x :: xs => SliceAt W 1 u x.length (u8s x) ∧ x.length ≤ 140737488355328 ∧ Els W us xs
  | _, _ => False
theorem Els.len {W : World} : ∀ {us : List Value} {xs : List (List (BitVec 8))}, Els W us xs → us.length = xs.length
  | [], [], _ => rfl
  | _ :: _, _ :: _, h => by simp [Els.len h.2.2]
theorem Els.later {W W' : World} (hb : Below W.heap.size W W') : ∀ {us : List Value} {xs : List (List (BitVec 8))}, Els W us xs → Els W' us xs
  | [], [], _ => trivial
  | _ :: _, _ :: _, h => ⟨h.1.later hb, h.2.1, Els.later hb h.2.2⟩
theorem Els.get {W : World} : ∀ {us : List Value} {xs : List (List (BitVec 8))} (_ : Els W us xs) (i : Nat) (x : List (BitVec 8)), xs[i]? = some x → ∃ A c, us[i]? = some (.slice A x.length c) ∧ SliceAt W 1 (.slice A x.length c) x.length (u8s x) ∧ x.length ≤ 140737488355328
  | [], [], _, i, x, h => by simp at h
  | u :: us, y :: ys, h, 0, x, hx => by
    simp only [List.getElem?_cons_zero, Option.some.injEq] at hx
    subst hx
    obtain ⟨A, c, e, _⟩ := h.1.form
    exact ⟨A, c, by rw [e]; rfl, e ▸ h.1, h.2.1⟩
  | u :: us, y :: ys, h, i + 1, x, hx => by
    obtain ⟨A, c, h1, h2⟩ := Els.get h.2.2 i x (by simpa using hx)
    exact ⟨A, c, by simpa using h1, h2⟩

/-! ### bytes do not lie in a link's block -/
/-- Whatever is turned in a link's block: bytes stay. -/
theorem Mem.SliceAt.beside {w w' : World} {g : Nat} {s q e : Int} {v : Value} {p : List (BitVec 8)} (h : SliceAt w 1 v p.length (u8s p)) (hl : LVar w g s q e) (hsz : w.heap.size ≤ w'.heap.size) (hk : ∀ i : Nat, i ≠ g → w'.heap[i]? = w.heap[i]?) : SliceAt w' 1 v p.length (u8s p) := by
  obtain ⟨A, c, rfl, h1, h2, h3, h4⟩ := h
  refine ⟨A, c, rfl, h1, h2, h3, ?_⟩
  rcases h4 with h4 | ⟨b, off, rfl, hlt, hc⟩
  · exact .inl h4
  rcases Nat.eq_zero_or_pos p.length with h0 | h0
  · exact .inl h0
  right
  have hne : b ≠ g := by
    rintro rfl
    obtain ⟨x, xs, rfl⟩ := List.exists_cons_of_length_pos h0
    have := hc 0 (.int .u8 (x.toNat : Int)) (by simp [u8s])
    rw [cell_at hl.at_] at this
    rcases off with _ | _ | _ | off <;> simp at this
  exact ⟨b, off, rfl, Nat.lt_of_lt_of_le hlt hsz, fun i u' hu => (World.cell?_of_block (hk b hne)).trans (hc i u' hu)⟩
theorem FCells.beside {S : Nat → Prop} {w w' : World} {g : Nat} {s q e : Int} {l : List Frm} {xs : List Value} (h : FCells S w l xs) (hl : LVar w g s q e) (hsz : w.heap.size ≤ w'.heap.size) (hk : ∀ i : Nat, i ≠ g → w'.heap[i]? = w.heap[i]?) : FCells S w' l xs := h.map fun _ _ hs hq => ⟨hs.beside hl hsz hk, hq⟩
/-- Behind an append to the row. -/
theorem FCells.grow {w w' : World} {v v' : Value} {l : List Frm} {xs : List Value} (h : FCells (fun q => v.ownBlock ≠ some q) w l xs) (hg : w.grownBy w' v.ownBlock) (hv : v'.ownBlock = v.ownBlock ∨ v'.ownBlock = some w.heap.size) : FCells (fun q => v'.ownBlock ≠ some q) w' l xs :=
  h.map fun u p hs hq => ⟨slice_keep hs (S := fun q => v.ownBlock ≠ some q) ⟨hg.os, hg.tape, hg.output, hg.size, fun k hk hne => hg.block k hk (fun e => hne e.symm)⟩ hq, fun q hb e => by
    rcases hv with h1 | h1
    · exact hq q hb (h1 ▸ e)
    · have := vblock_lt hs hb
      rw [h1] at e
      injection e with e
      omega⟩
theorem LVar.not_own {w : World} {g B n : Nat} {s q e : Int} {v : Value} {xs : List Value} (h : LVar w g s q e) (ho : w.ownsRow B 41 3 v n xs) : v.ownBlock ≠ some g := by
  intro hv
  rcases ho.2 with ⟨rfl, _⟩ | ⟨g', cap, cur, rfl, _, hg, _⟩
  · cases hv
  · simp only [Value.ownBlock, Option.some.injEq] at hv
    subst hv
    rw [h.at_] at hg
    simp at hg
theorem Tops.belowB {B : Nat} {w w' : World} (h : Tops w) (hb : Below B w w') (hg : 0 < B) : Tops w' :=
  ⟨(hb.cell (p := ⟨0,0,none⟩) hg).trans h.c0, (hb.cell (p := ⟨0,1,none⟩) hg).trans h.c1, Nat.lt_of_lt_of_le h.sz hb.size⟩
theorem set3_off (W : World) (g : Nat) (x y z : Value) (i : Nat) (h : i ≠ g) : (((W.setCell ⟨g, 0, none⟩ x).setCell ⟨g, 1, none⟩ y).setCell ⟨g, 2, none⟩ z).heap[i]? = W.heap[i]? := far3 h x y z
end Go.Proofs.YtlanlkpamnoekaaDoor
