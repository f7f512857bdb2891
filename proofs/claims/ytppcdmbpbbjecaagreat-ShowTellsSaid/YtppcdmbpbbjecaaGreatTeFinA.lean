/- Numbers and shows put by the document: contracts of its bits, put, flag, Put, Size. Nothing that was there is turned. -/
import Derived.Test.YtppcdmbpbbjecaaGreatSDoc
import Derived.Test.YtppcdmbpbbjecaaGreatHoFew
import Derived.Deep.RegionHeld3
import Derived.Deep.CutRange
namespace Go.Proofs.YtppcdmbpbbjecaaGreat
open List renaming getElem_toArray → zA, getElem_cons_succ → zS, getElem_cons_zero → zZ, setIfInBounds_toArray → zP, set_cons_zero → zQ, set_cons_succ → zR
open Go.RowKit Rf Mem Bv AM SM Bits Str
attribute [local go_sem ↓] run_max2 run_min2
theorem u8s_get0 {B : List (BitVec 8)} (h : 0 < B.length) : ∃ n : Int, (u8s B)[0]? = some (.int .u8 n) := by
  match B, h with
  | x :: r, _ => exact ⟨_, rfl⟩
theorem sl_far {W W' : World} {s : Nat} {N : Int} {u v : Value} {t : TypeId} {f : Nat × Nat} {B : List (BitVec 8)} (h : SliceAt W 1 v B.length (u8s B)) (hs : W.heap[s]? = some (.cells #[u, .int .i64 N] t f)) (hu : ∀ n, u ≠ .int .u8 n)
    (far : ∀ k, k ≠ s → W'.heap[k]? = W.heap[k]?) : SliceAt W' 1 v B.length (u8s B) := by
  obtain ⟨A, c, rfl, h1, h2, h3, h4⟩ := h
  refine ⟨A, c, rfl, h1, h2, h3, ?_⟩
  rcases Nat.eq_zero_or_pos B.length with h0 | h0
  · exact .inl h0
  rcases h4 with h4 | ⟨b, off, rfl, hlt, hc⟩
  · exact .inl h4
  obtain ⟨n, hn⟩ := u8s_get0 h0
  have hx := hc 0 _ hn
  have hne : b ≠ s := by
    rintro rfl
    rw [cell_at hs] at hx
    match off, hx with
    | 0, hx => simp at hx; exact hu _ hx
    | 1, hx => simp at hx
    | k + 2, hx => simp at hx
  refine .inr ⟨b, off, rfl, ?_, fun i x hx => (World.cell?_of_block (a := ⟨b, off + i, none⟩) (far b hne)).trans (hc i x hx)⟩
  have e := far b hne
  rw [Array.getElem?_eq_getElem hlt] at e
  exact (Array.getElem?_eq_some_iff.1 e).1
theorem far2 (W : World) (s : Nat) (x y : Value) : ∀ k, k ≠ s → ((W.setCell ⟨s, 0, none⟩ x).setCell ⟨s, 1, none⟩ y).heap[k]? = W.heap[k]? := fun k hk => (Below.heap_setCell _ _ _ k hk).trans (Below.heap_setCell _ _ _ k hk)
/-- a variable of bits: its block, what it holds, how many -/
structure XN (s : Nat) (w W : World) (v : Value) (B : List (BitVec 8)) (l : List Bool) (N : Int) : Prop where
  x : W.heap[s]? = some (.cells #[v, .int .i64 N] 84 (0, 0))
  n : N = (l.length : Int)
  sl : SliceAt W 1 v B.length (u8s B)
  h : Bits.Holds B l
  b : Below w.heap.size w W
theorem XN.later {s : Nat} {w W W' : World} {v : Value} {B : List (BitVec 8)} {l : List Bool} {N : Int} (h : XN s w W v B l N) (hb : Below W.heap.size W W') : XN s w W' v B l N :=
  ⟨var_later h.x hb, h.n, h.sl.later hb, h.h, below_step h.b hb⟩
theorem XN.set {s : Nat} {w W W' : World} {v v' : Value} {B B' : List (BitVec 8)} {l l' : List Bool} {N N' : Int} (h : XN s w W v B l N) (hb : Below W.heap.size W W') (hs : w.heap.size ≤ s) (hl : SliceAt W' 1 v' B'.length (u8s B')) (hH : Bits.Holds B' l') (hN : N' = l'.length) :
    XN s w ((W'.setCell ⟨s, 0, none⟩ v').setCell ⟨s, 1, none⟩ (.int .i64 N')) v' B' l' N' := by
  have hx := var_later h.x hb
  obtain ⟨A, c, rfl, _⟩ := h.sl.form
  refine ⟨by rw [set_at (set_at hx 0 _) 1]; simp, hN, sl_far hl hx (fun n e => by cases e) (far2 _ _ _ _), hH, ((below_step h.b hb).setCell hs _).setCell hs _⟩
set_option maxHeartbeats 1000000 in
set_option maxRecDepth 100000 in
theorem put28_c (v : Value) (B : List (BitVec 8)) (l : List Bool) (n wd : Nat) (N N' n' wd' : Int) (w : World) (hN : N = l.length) (hN' : N' = ((l.length + wd : Nat) : Int)) (hn' : n' = n) (hwd' : wd' = wd) (hs : SliceAt w 1 v B.length (u8s B)) (hH : Bits.Holds B l) (hl : l.length ≤ 900000) (hw : wd ≤ 32) (hn : n < 2 ^ wd) :
    Calls Tryz.prog 65 #[Bt.bv v N, .int .i64 n', .int .i64 wd'] w fun e w' => Below w.heap.size w w' ∧ ∃ A c B', e = .returned (Bt.bv (.slice A (B' : List (BitVec 8)).length c) N') ∧ SliceAt w' 1 (.slice A B'.length c) B'.length (u8s B') ∧ Bits.Holds B' (l ++ numBits n wd) := by
  obtain ⟨A, c, rfl, _⟩ := hs.form
  obtain ⟨V, hV⟩ : ∃ V, (w.alloc (.cells #[.slice A B.length c, .int .i64 N] 84)).alloc (.cells #[.slice none 0 0, .int .i64 0] 84) = V := ⟨_, rfl⟩
  have B0 : Below w.heap.size w V := by rw [← hV]; exact below_step (below_new _ _) (below_new _ _)
  have X0 : XN w.heap.size w V (.slice A B.length c) B l N := ⟨by rw [← hV]; exact old_at (new_at rfl _) _, hN, hs.later B0, hH, B0⟩
  have R0 : V.heap[w.heap.size + 1]? = some (.cells #[.slice none 0 0, .int .i64 0] 84 (0, 0)) := by rw [← hV]; exact new_at (by simp) _
  have HP := Lib.hid (fun (W : World) (h : SliceAt W 1 (.slice A B.length c) B.length (u8s B)) => Bt.refPut_g (.slice A B.length c) B l n wd N N' n' wd' W hN hN' hn' hwd' h hH hl hw hn)
  have HN := Lib.hid (show N' = ((l ++ numBits n wd).length : Int) by rw [hN', List.length_append, numBits_length])
  clear hs hH B0 hn' hwd' hN hN' hl hw hn
  go_enter Tryz.func65, Tryz.ntmps65
  go_upto_region 1 with (fail)
  generalize (w.alloc (.cells #[.slice A B.length c, .int .i64 N] 84)).alloc (.cells #[.slice none 0 0, .int .i64 0] 84) = V' at *
  subst hV
  have d0 := cell_at X0.x 0
  have d1 := cell_at X0.x 1
  go_wp2_with fail
  refine (HP.out _ X0.sl).mono ?_
  rintro e W2 ⟨b2, A2, c2, B2, rfl, s2, h2⟩
  have X2 := X0.set b2 (Nat.le_refl _) s2 h2 HN.out
  have hx2 := var_later X0.x b2
  have R2 := (far2 W2 w.heap.size (.slice A2 B2.length c2) (.int .i64 N') _ (by omega)).trans (var_later R0 b2)
  have e0 := free_at hx2 0
  have e1 := free_at hx2 1
  have h0 := cell_at hx2 0
  have h1 := cell_at hx2 1
  clear d0 d1 X0 R0 b2 s2 h2 HP
  go_upto_region 2 with (fail)
  clear hx2 e0 e1 h0 h1
  generalize (W2.setCell ⟨w.heap.size, 0, none⟩ (.slice A2 B2.length c2)).setCell ⟨w.heap.size, 1, none⟩ (.int .i64 N') = W3 at *
  have d0 := cell_at X2.x 0
  have d1 := cell_at X2.x 1
  have r0 := cell_at R2 0
  have r1 := cell_at R2 1
  have f0 := free_at R2 0
  have f1 := free_at R2 1
  have hset : ((W3.setCell ⟨w.heap.size + 1, 0, none⟩ (.slice A2 B2.length c2)).setCell ⟨w.heap.size + 1, 1, none⟩ (.int .i64 N')).heap[w.heap.size + 1]? = some (.cells #[.slice A2 B2.length c2, .int .i64 N'] 84 (0, 0)) := by rw [set_at (set_at R2 0 _) 1]; simp
  have HX := Lib.hid X2
  clear X2
  go_wp2
  refine bodyPost_ret (Bt.res_bits rfl rfl hset) rfl ?_
  exact ⟨(HX.out.b.setCell (by simp) _).setCell (by simp) _, A2, c2, B2, rfl, sl_far HX.out.sl R2 (fun n e => by cases e) (far2 _ _ _ _), HX.out.h⟩
set_option maxHeartbeats 1000000 in
set_option maxRecDepth 100000 in
theorem flag28_c (v : Value) (B : List (BitVec 8)) (l : List Bool) (b : Bool) (N N' : Int) (w : World) (hN : N = l.length) (hN' : N' = ((l.length + 1 : Nat) : Int)) (hs : SliceAt w 1 v B.length (u8s B)) (hH : Bits.Holds B l) (hl : l.length ≤ 900000) :
    Calls Tryz.prog 63 #[Bt.bv v N, .bool b] w fun e w' => Below w.heap.size w w' ∧ ∃ A c B', e = .returned (Bt.bv (.slice A (B' : List (BitVec 8)).length c) N') ∧ SliceAt w' 1 (.slice A B'.length c) B'.length (u8s B') ∧ Bits.Holds B' (l ++ [b]) := by
  obtain ⟨A, c, rfl, _⟩ := hs.form
  obtain ⟨V, hV⟩ : ∃ V, (w.alloc (.cells #[.slice A B.length c, .int .i64 N] 84)).alloc (.cells #[.slice none 0 0, .int .i64 0] 84) = V := ⟨_, rfl⟩
  have B0 : Below w.heap.size w V := by rw [← hV]; exact below_step (below_new _ _) (below_new _ _)
  have X0 : XN w.heap.size w V (.slice A B.length c) B l N := ⟨by rw [← hV]; exact old_at (new_at rfl _) _, hN, hs.later B0, hH, B0⟩
  have R0 : V.heap[w.heap.size + 1]? = some (.cells #[.slice none 0 0, .int .i64 0] 84 (0, 0)) := by rw [← hV]; exact new_at (by simp) _
  have HP := Lib.hid (fun (W : World) (u : Value) (hu : SliceAt W 1 u [b].length (bools [b])) (h : SliceAt W 1 (.slice A B.length c) B.length (u8s B)) => Bt.refFlags_g (.slice A B.length c) B l u [b] N N' W hN hN' h hu hH hl (by simp))
  have HN := Lib.hid (show N' = ((l ++ [b]).length : Int) by rw [hN', List.length_append]; rfl)
  clear hs hH B0 hN hN' hl
  go_enter Tryz.func63, Tryz.ntmps63
  go_upto_region 1 with (fail)
  generalize (w.alloc (.cells #[.slice A B.length c, .int .i64 N] 84)).alloc (.cells #[.slice none 0 0, .int .i64 0] 84) = V' at *
  subst hV
  have d0 := cell_at X0.x 0
  have d1 := cell_at X0.x 1
  have bA := below_new V' (.cells #[.bool b] 4)
  have sA := sliceAt_blk (w := V'.alloc (.cells ([.bool b] : List Value).toArray 4)) (cs := [.bool b]) (new_at rfl _) rfl (show 1 ≤ maxLen by decide)
  go_wp2_with fail
  refine (HP.out _ _ sA (X0.sl.later bA)).mono ?_
  rintro e W2 ⟨b2, A2, c2, B2, rfl, s2, h2⟩
  replace b2 := below_step bA b2
  have X2 := X0.set b2 (Nat.le_refl _) s2 h2 HN.out
  have hx2 := var_later X0.x b2
  have R2 := (far2 W2 w.heap.size (.slice A2 B2.length c2) (.int .i64 N') _ (by omega)).trans (var_later R0 b2)
  have e0 := free_at hx2 0
  have e1 := free_at hx2 1
  have h0 := cell_at hx2 0
  have h1 := cell_at hx2 1
  clear d0 d1 X0 R0 b2 s2 h2 HP bA sA
  go_upto_region 2 with (fail)
  clear hx2 e0 e1 h0 h1
  generalize (W2.setCell ⟨w.heap.size, 0, none⟩ (.slice A2 B2.length c2)).setCell ⟨w.heap.size, 1, none⟩ (.int .i64 N') = W3 at *
  have d0 := cell_at X2.x 0
  have d1 := cell_at X2.x 1
  have r0 := cell_at R2 0
  have r1 := cell_at R2 1
  have f0 := free_at R2 0
  have f1 := free_at R2 1
  have hset : ((W3.setCell ⟨w.heap.size + 1, 0, none⟩ (.slice A2 B2.length c2)).setCell ⟨w.heap.size + 1, 1, none⟩ (.int .i64 N')).heap[w.heap.size + 1]? = some (.cells #[.slice A2 B2.length c2, .int .i64 N'] 84 (0, 0)) := by rw [set_at (set_at R2 0 _) 1]; simp
  have HX := Lib.hid X2
  clear X2
  go_wp2
  refine bodyPost_ret (Bt.res_bits rfl rfl hset) rfl ?_
  exact ⟨(HX.out.b.setCell (by simp) _).setCell (by simp) _, A2, c2, B2, rfl, sl_far HX.out.sl R2 (fun n e => by cases e) (far2 _ _ _ _), HX.out.h⟩
theorem is28_c (x : BitVec 32) (k : Nat) (b : Bool) (w : World) (hk : k < 32) (hb : b = x.getLsbD k) :
    Calls Tryz.prog 64 #[.int .u32 x.toNat, .int .i64 k] w fun e w' => e = .returned (.bool b) ∧ w' = w := by
  have q1 : decide (0 ≤ (k : Int)) = true := decide_eq_true (by omega)
  have q2 : decide ((k : Int) < 32) = true := decide_eq_true (by omega)
  have i2 : (k : Int) < 32 := by omega
  have hl := low32 x k
  rw [← hb] at hl
  clear hb
  generalize (x.toNat : Int) = xi at *
  go_enter Tryz.func64, Tryz.ntmps64
  go_wp2
  go_ret
  exact ⟨rfl, rfl⟩
def oneN (a b : Bool) : Nat := if a && !b then 1 else if b && !a then 2 else 0
theorem one28_c (a b : Bool) (w : World) : Calls Tryz.prog 66 #[.bool a, .bool b] w fun e w' => e = .returned (.int .i64 (oneN a b : Nat)) ∧ w' = w := by
  cases a <;> cases b
  all_goals
    go_enter Tryz.func66, Tryz.ntmps66
    go_wp2
    go_ret
    exact ⟨rfl, rfl⟩
theorem few28_c (n m r : Int) (w : World) (hr : r = min (max n 0) m) : Calls Tryz.prog 67 #[.int .i64 n, .int .i64 m] w fun e w' => e = .returned (.int .i64 r) ∧ w' = w := by
  subst hr
  go_enter Tryz.func67, Tryz.ntmps67
  go_wp2
  go_ret
  exact ⟨rfl, rfl⟩
theorem sections28_c (L : List Value) (n : Nat) (A : Option Addr) (c : Nat) (r : Int) (w : World) (hr : r = ((min n 24 : Nat) : Int)) (h : L[0]? = some (.slice A n c)) : Calls Tryz.prog 27 #[.agg L.toArray] w fun e w' => e = .returned (.int .i64 r) ∧ Below w.heap.size w w' := by
  have b0 := below_new w (.cells L.toArray 29)
  have x0 := cell_list (new_at (w := w) rfl (.cells L.toArray 29)) h
  have hmin : min (n : Int) 24 = r := by omega
  clear h hr
  go_enter Tryz.func27, Tryz.ntmps27
  go_upto_region 1 with (fail)
  generalize w.alloc (.cells L.toArray 29) = V at *
  go_wp2
  go_ret
  exact ⟨rfl, b0⟩
theorem signals28_c (L : List Value) (n : Nat) (A : Option Addr) (c : Nat) (r : Int) (w : World) (hr : r = ((min n 12 : Nat) : Int)) (h : L[1]? = some (.slice A n c)) : Calls Tryz.prog 30 #[.agg L.toArray] w fun e w' => e = .returned (.int .i64 r) ∧ Below w.heap.size w w' := by
  have b0 := below_new w (.cells L.toArray 29)
  have x0 := cell_list (new_at (w := w) rfl (.cells L.toArray 29)) h
  have hmin : min (n : Int) 12 = r := by omega
  clear h hr
  go_enter Tryz.func30, Tryz.ntmps30
  go_upto_region 1 with (fail)
  generalize w.alloc (.cells L.toArray 29) = V at *
  go_wp2
  go_ret
  exact ⟨rfl, b0⟩
end Go.Proofs.YtppcdmbpbbjecaaGreat
namespace Go.Proofs.YtppcdmbpbbjecaaGreat
open List renaming getElem_toArray → zA, getElem_cons_succ → zS, getElem_cons_zero → zZ, setIfInBounds_toArray → zP, set_cons_zero → zQ, set_cons_succ → zR
open Go.RowKit Rf Mem Bv AM SM Bits Str
attribute [local go_sem ↓] run_max2 run_min2
theorem fbits_app (a b : List Fld) : fbits (a ++ b) = fbits a ++ fbits b := by simp [fbits]
theorem num_one (x : BitVec 32) (i : Nat) : numBits (bitN x i) 1 = [x.getLsbD i] := by
  unfold bitN; cases x.getLsbD i <;> rfl
theorem lamp_one (a b : BitVec 32) (i : Nat) : lampN a b i = oneN (a.getLsbD i) (b.getLsbD i) := rfl
theorem sec_np {s : ShowM} {kinds : List Int} {k : Nat} (h : (kinds.getD k 0 == 2) = false) : fbits (secsF s kinds (k + 1)) = (fbits (secsF s kinds k) ++ [s.clear.getLsbD k]) ++ [s.held.getLsbD k] := by
  rw [secsF_succ, fbits_app]
  unfold secF
  rw [h]
  simp [fbits, num_one]
theorem sec_p {s : ShowM} {kinds : List Int} {k : Nat} (h : (kinds.getD k 0 == 2) = true) : fbits (secsF s kinds (k + 1)) = (((fbits (secsF s kinds k) ++ [s.clear.getLsbD k]) ++ [s.held.getLsbD k]) ++ numBits (oneN (s.normal.getLsbD k) (s.reverse.getLsbD k)) 2) ++ [s.locked.getLsbD k] := by
  rw [secsF_succ, fbits_app]
  unfold secF
  rw [h, lamp_one]
  simp [fbits, num_one]
theorem sig_p {s : ShowM} {l : List Bool} {k : Nat} : l ++ fbits (sigsF s (k + 1)) = (((l ++ fbits (sigsF s k)) ++ [s.off.getLsbD k]) ++ numBits (oneN (s.steady.getLsbD k) (s.flash.getLsbD k && !s.steady.getLsbD k)) 2) ++ [s.autos.getLsbD k] := by
  rw [sigsF_succ, fbits_app]
  unfold sigF
  rw [lamp_one, flashM_bit]
  simp [fbits, num_one]
theorem secs_le28 (s : ShowM) (kinds : List Int) : ∀ n, sumW (secsF s kinds n) ≤ 5 * n
  | 0 => by simp [secsF, sumW]
  | n + 1 => by
    rw [secsF_succ, sumW_append]
    have h1 := secs_le28 s kinds n
    have h2 : sumW (secF s kinds n) ≤ 5 := by unfold secF; split <;> simp [sumW]
    omega
theorem oneN_lt (a b : Bool) : oneN a b < 2 ^ 2 := by cases a <;> cases b <;> decide
theorem bits_size28 : (Tryz.prog.info? 84).map (·.size) = some 2 := by kernel_rfl
theorem one_bits28 {v : Value} {A : Option Addr} {n c : Nat} (h : v = .slice A n c) (M : Int) : ([v, Value.int .i64 M].toArray).all (·.oneCell') = true := by subst h; simp [Value.oneCell']
/-- what Put carries -/
structure PB (w W : World) (L S : List Value) (v : Value) (B : List (BitVec 8)) (lb : List Bool) (N : Int) : Prop where
  l : W.heap[w.heap.size]? = some (.cells L.toArray 29 (0, 0))
  s : W.heap[w.heap.size + 1]? = some (.cells S.toArray 52 (0, 0))
  xv : XN (w.heap.size + 1 + 1) w W v B lb N
theorem PB.later {w W W' : World} {L S : List Value} {v : Value} {B : List (BitVec 8)} {lb : List Bool} {N : Int} (h : PB w W L S v B lb N) (b : Below W.heap.size W W') : PB w W' L S v B lb N := ⟨var_later h.l b, var_later h.s b, h.xv.later b⟩
theorem PB.fill {w V : World} {L S : List Value} {v v' : Value} {B B' : List (BitVec 8)} {lb lb' : List Bool} {N N' : Int} (h : PB w V L S v B lb N) (hl : SliceAt V 1 v' B'.length (u8s B')) (hH : Bits.Holds B' lb') (hN : N' = (lb'.length : Int)) :
    ∃ V', V.setCells (w.heap.size + 1 + 1) 0 [v', .int .i64 N'].toArray.toList = V' ∧ PB w V' L S v' B' lb' N' ∧ V.there (w.heap.size + 1 + 1) 0 [v', Value.int .i64 N'].toArray.size := by
  obtain ⟨V', hW, F, bF, far, ths⟩ := fill_new [v', .int .i64 N'] h.xv.x rfl h.xv.b (by omega)
  obtain ⟨A, c, hv, _⟩ := h.xv.sl.form
  exact ⟨V', hW, ⟨(far _ (by omega)).trans h.l, (far _ (by omega)).trans h.s, ⟨F, hN, sl_far hl h.xv.x (fun n e => by rw [hv] at e; cases e) far, hH, bF⟩⟩, ths⟩
set_option maxHeartbeats 16000000 in
set_option maxRecDepth 100000 in
theorem refPut28_c (L : List Value) (kinds : List Int) (ss : List (List Value)) (nsig : Nat) (clr st : Int) (A : Option Addr) (c : Nat) (A1 : Option Addr) (c1 : Nat) (s : ShowM) (w : World) (hL : LY w L kinds ss nsig clr st A c A1 c1) (hcd : 0 ≤ s.code ∧ s.code ≤ 255) :
    Calls Tryz.prog 13 #[.agg L.toArray, .agg (showL s).toArray] w fun e w' => Below w.heap.size w w' ∧ ∃ (A' : Option Addr) (c' : Nat) (B : List (BitVec 8)), e = .returned (.slice A' B.length c') ∧ SliceAt w' 1 (.slice A' B.length c') B.length (u8s B) ∧ Bits.Holds B (fbits (flds s kinds nsig)) := by
  have szL := lay_size hL.f.len
  obtain ⟨S, hS⟩ : ∃ S, showL s = S := ⟨_, rfl⟩
  rw [hS]
  obtain ⟨W0, hW0⟩ : ∃ W0, ((w.alloc (.cells L.toArray 29)).alloc (.cells S.toArray 52)).alloc (.cells #[.slice none 0 0, .int .i64 0] 84) = W0 := ⟨_, rfl⟩
  have B0 : Below w.heap.size w W0 := by rw [← hW0]; exact below_step (below_step (below_new _ _) (below_new _ _)) (below_new _ _)
  have P0 : PB w W0 L S (.slice none 0 0) [] [] 0 := ⟨by rw [← hW0]; exact old_at (old_at (new_at rfl _) _) _, by rw [← hW0]; exact old_at (new_at (by simp) _) _, ⟨by rw [← hW0]; exact new_at (by simp) _, rfl, SliceAt.nil_ _ _, ⟨rfl, 0, rfl⟩, B0⟩⟩
  have HS0 := Lib.hid (show S[0]? = some (.int .u32 s.clear.toNat) by rw [← hS]; rfl)
  have HS1 := Lib.hid (show S[1]? = some (.int .u32 s.held.toNat) by rw [← hS]; rfl)
  have HS2 := Lib.hid (show S[2]? = some (.int .u32 s.normal.toNat) by rw [← hS]; rfl)
  have HS3 := Lib.hid (show S[3]? = some (.int .u32 s.reverse.toNat) by rw [← hS]; rfl)
  have HS4 := Lib.hid (show S[4]? = some (.int .u32 s.locked.toNat) by rw [← hS]; rfl)
  have HS5 := Lib.hid (show S[5]? = some (.int .u32 s.off.toNat) by rw [← hS]; rfl)
  have HS6 := Lib.hid (show S[6]? = some (.int .u32 s.steady.toNat) by rw [← hS]; rfl)
  have HS7 := Lib.hid (show S[7]? = some (.int .u32 s.flash.toNat) by rw [← hS]; rfl)
  have HS8 := Lib.hid (show S[8]? = some (.int .u32 s.autos.toNat) by rw [← hS]; rfl)
  have HS9 := Lib.hid (show S[9]? = some (.int .u8 s.code) by rw [← hS]; rfl)
  have HS10 := Lib.hid (show S[10]? = some (.int .i64 s.waiting) by rw [← hS]; rfl)
  have HS11 := Lib.hid (show S[11]? = some (.int .i64 s.errors) by rw [← hS]; rfl)
  have HL := Lib.hid hL
  have HCD := Lib.hid hcd
  obtain ⟨m1, hm1⟩ : ∃ m, min kinds.length 24 = m := ⟨_, rfl⟩
  obtain ⟨m2, hm2⟩ : ∃ m, min nsig 12 = m := ⟨_, rfl⟩
  have hm24 : m1 ≤ 24 := by omega
  have hm12 : m2 ≤ 12 := by omega
  have HM1 := Lib.hid hm1
  have HM2 := Lib.hid hm2
  have enIs := Lib.hid (enters Tryz.func64 (by kernel_rfl) rfl)
  have enFl := Lib.hid (enters Tryz.func63 (by kernel_rfl) rfl)
  have enPu := Lib.hid (enters Tryz.func65 (by kernel_rfl) rfl)
  have enOn := Lib.hid (enters Tryz.func66 (by kernel_rfl) rfl)
  have enFw := Lib.hid (enters Tryz.func67 (by kernel_rfl) rfl)
  clear hL hcd hS B0 hm1 hm2
  go_enter Tryz.func13, Tryz.ntmps13
  go_upto_region 2 with (fail)
  generalize ((w.alloc (.cells L.toArray 29)).alloc (.cells S.toArray 52)).alloc (.cells #[.slice none 0 0, .int .i64 0] 84) = W0' at *
  subst hW0
  go_wp2
  go_loopw [6] (fun i wr => ∃ (k : Nat) (v : Value) (B : List (BitVec 8)) (N : Int), k ≤ m1 ∧ i = .int .i64 k ∧ PB w wr L S v B (fbits (secsF s kinds k)) N) (fun i _ => m1 - (intOf i).toNat)
  case atStart => exact ⟨0, _, [], 0, Nat.zero_le _, rfl, P0⟩
  case round =>
    clear P0
    obtain ⟨k, v, B, N, hk, rfl, P⟩ := hrel
    have RL := range_of P.l
    go_wp2_with (first
      | refine wpList_load_k 29 (.tmp 2) (by rfl) w.heap.size 0 (by rfl) L _ RL Tryz.underlying29 rfl szL (by kernel_rfl) ?_
      | fail)
    refine (sections28_c L kinds.length A c (m1 : Int) _ (by rw [HM1.out]) HL.out.f.sec).mono ?_
    rintro e W1 ⟨rfl, b1⟩
    replace P := P.later b1
    clear b1 RL
    by_cases hlt : k < m1
    · have i1 : (k : Int) < (m1 : Int) := by omega
      have i2 : decide (k < m1) = true := decide_eq_true hlt
      have k32 : k < 32 := by omega
      obtain ⟨lb, hlb⟩ : ∃ lb, fbits (secsF s kinds k) = lb := ⟨_, rfl⟩
      have hll : lb.length ≤ 200 := by rw [← hlb, fbits_len]; have := secs_le28 s kinds k; omega
      rw [hlb] at P
      have HLB := Lib.hid hlb
      have HLL := Lib.hid hll
      obtain ⟨x0, hx0⟩ : ∃ b, s.clear.getLsbD k = b := ⟨_, rfl⟩
      obtain ⟨x1, hx1⟩ : ∃ b, s.held.getLsbD k = b := ⟨_, rfl⟩
      have X0 := Lib.hid hx0
      have X1 := Lib.hid hx1
      clear hlb hll hx0 hx1
      go_upto_region 5 with (fail)
      go_cut [24] from 14 to 23 (fun x24 wx => ∃ (v' : Value) (B' : List (BitVec 8)) (N' : Int), PB w wx L S v' B' ((lb ++ [x0]) ++ [x1]) N')
      case first =>
        have hZ := Lib.hid (fun (W : World) (v : Value) (B : List (BitVec 8)) (l : List Bool) (N : Int) (P : PB w W L S v B l N) => And.intro (cell_list P.s HS0.out) (cell_list P.s HS1.out))
        obtain ⟨N1, hN1⟩ : ∃ N : Int, N = ((lb.length + 1 : Nat) : Int) := ⟨_, rfl⟩
        have HN1 := Lib.hid hN1
        clear hN1
        obtain ⟨N2, hN2⟩ : ∃ N : Int, N = (((lb ++ [x0]).length + 1 : Nat) : Int) := ⟨_, rfl⟩
        have HN2 := Lib.hid hN2
        clear hN2
        refine wp_region_held_drew (S := (fun w' => w'.cell? ⟨w.heap.size + 1, 0, none⟩ = some (.int .u32 s.clear.toNat) ∧ w'.cell? ⟨w.heap.size + 1, 1, none⟩ = some (.int .u32 s.held.toNat))) (by kernel_rfl) ?_ (fun hHeld => ?_)
        · exact hZ.out _ _ _ _ _ (P.later (Below.refl _ _).drew)
        replace P := P.later (Below.refl _ _).drew
        refine Node.tk 1 ?_ rfl ?_ ?_
        rotate_left
        · intro w hSw; (try dsimp only at hSw); go_simp; try with_reducible rfl
        simp only [zA, zS, zZ, Act.put, zP, zQ, zR]
        refine Node.tk 2 ?_ rfl ?_ ?_
        rotate_left
        · intro w hSw; (try dsimp only at hSw); go_simp; try with_reducible rfl
        simp only [zA, zS, zZ, Act.put, zP, zQ, zR]
        refine Node.tk 3 ?_ rfl ?_ ?_
        rotate_left
        · intro w hSw; (try dsimp only at hSw); go_simp; try with_reducible rfl
        simp only [zA, zS, zZ, Act.put, zP, zQ, zR]
        refine Node.tk 6 ?_ rfl ?_ ?_
        rotate_left
        · intro w hSw; (try dsimp only at hSw); go_simp; try with_reducible rfl
        simp only [zA, zS, zZ, Act.put, zP, zQ, zR]
        refine Node.tk 7 ?_ rfl ?_ ?_
        rotate_left
        · intro w hSw; (try dsimp only at hSw); go_simp; try with_reducible rfl
        simp only [zA, zS, zZ, Act.put, zP, zQ, zR]
        refine Node.tk 8 ?_ rfl ?_ ?_
        rotate_left
        · intro w hSw; (try dsimp only at hSw); go_simp; try with_reducible rfl
        simp only [zA, zS, zZ, Act.put, zP, zQ, zR]
        clear hHeld
        refine wpAnyH_ready (rs := [0, 4]) (by kernel_rfl) (by simp) ?_
        refine AllReadyH.cons rfl (fun K hK => ?_) (AllReadyH.cons rfl (fun K hK => ?_) AllReadyH.nil)
        · skip
          refine wp_load_mid 84 (.tmp 5) (by rfl) (w.heap.size + 1 + 1) 0 (by rfl) [v, .int .i64 N] _ (range_of (cs := [v, .int .i64 N]) P.xv.x) Tryz.underlying84 rfl bits_size28 ?_
          refine hK.out _ _ (hZ.out _ _ _ _ _ P) (fun _ => ?_)
          clear hK K
          try simp only [zA, zS, zZ, Act.put, zP, zQ, zR]
          refine Node.on 4 rfl (fun K hK => ?_)
          refine Node.wp_fn 64 [.tmp 16, .tmp 17] _ [.int .u32 s.clear.toNat, .int .i64 k] (by rfl) (by kernel_rfl) enIs.out (is28_c s.clear k x0 _ k32 X0.out.symm) ?_
          rintro e V' ⟨rfl, rfl⟩
          refine ⟨_, rfl, ?_⟩
          refine hK.out _ _ (hZ.out _ _ _ _ _ P) (fun _ => ?_)
          clear hK K
          try simp only [zA, zS, zZ, Act.put, zP, zQ, zR]
          refine Node.on 5 rfl (fun K hK => ?_)
          refine Node.wp_fn 63 [.tmp 14, .tmp 18] _ [Bt.bv v N, .bool x0] (by rfl) (by kernel_rfl) enFl.out (flag28_c v B lb x0 N N1 _ P.xv.n HN1.out P.xv.sl P.xv.h (by have := HLL.out; omega)) ?_
          rintro e V2 ⟨bF, A2, c2, B2, rfl, s2, h2⟩
          refine ⟨_, rfl, ?_⟩
          replace P := P.later bF
          clear bF
          refine hK.out _ _ (hZ.out _ _ _ _ _ P) (fun _ => ?_)
          clear hK K
          try simp only [zA, zS, zZ, Act.put, zP, zQ, zR]
          refine Node.on 9 rfl (fun K hK => ?_)
          refine Node.wp_fn 64 [.tmp 21, .tmp 22] _ [.int .u32 s.held.toNat, .int .i64 k] (by rfl) (by kernel_rfl) enIs.out (is28_c s.held k x1 _ k32 X1.out.symm) ?_
          rintro e V' ⟨rfl, rfl⟩
          refine ⟨_, rfl, ?_⟩
          refine hK.out _ _ (hZ.out _ _ _ _ _ P) (fun _ => ?_)
          clear hK K
          try simp only [zA, zS, zZ, Act.put, zP, zQ, zR]
          refine Node.on 10 rfl (fun K hK => ?_)
          refine Node.wp_fn 63 [.tmp 19, .tmp 23] _ [Bt.bv (Value.slice A2 B2.length c2) N1, .bool x1] (by rfl) (by kernel_rfl) enFl.out (flag28_c (Value.slice A2 B2.length c2) B2 (lb ++ [x0]) x1 N1 N2 _ (by have h := HN1.out; simp only [List.length_append, List.length_cons, List.length_nil, numBits_length] at h ⊢; omega) HN2.out s2 h2 (by simp only [List.length_append, List.length_cons, List.length_nil, numBits_length]; have := HLL.out; omega)) ?_
          rintro e V3 ⟨bF, A3, c3, B3, rfl, s3, h3⟩
          refine ⟨_, rfl, ?_⟩
          replace P := P.later bF
          try replace s2 := s2.later bF
          clear bF
          refine hK.out _ _ (hZ.out _ _ _ _ _ P) (fun _ => ?_)
          clear hK K
          try simp only [zA, zS, zZ, Act.put, zP, zQ, zR]
          refine Node.on 11 rfl (fun K hK => ?_)
          obtain ⟨V', hW, P', ths⟩ := P.fill (N' := N2) s3 h3 (by have h := HN2.out; simp only [List.length_append, List.length_cons, List.length_nil, numBits_length] at h ⊢; omega)
          refine wp_store_mid 84 (.tmp 5) (.tmp 24) (by rfl) (w.heap.size + 1 + 1) 0 [(Value.slice A3 B3.length c3), .int .i64 N2].toArray (by rfl) (by rfl) ths bits_size28 (one_bits28 rfl _) ?_
          rw [hW]
          clear hW ths P
          have P := P'
          clear P'
          refine hK.out _ _ (hZ.out _ _ _ _ _ P) (fun _ => ?_)
          clear hK K
          try simp only [zA, zS, zZ, Act.put, zP, zQ, zR]
          refine wpAnyH_done (by kernel_rfl) ?_ _
          go_wp2
          go_meet
          exact ⟨_, _, _, P⟩
        · skip
          refine Node.wp_fn 64 [.tmp 16, .tmp 17] _ [.int .u32 s.clear.toNat, .int .i64 k] (by rfl) (by kernel_rfl) enIs.out (is28_c s.clear k x0 _ k32 X0.out.symm) ?_
          rintro e V' ⟨rfl, rfl⟩
          refine ⟨_, rfl, ?_⟩
          refine hK.out _ _ (hZ.out _ _ _ _ _ P) (fun _ => ?_)
          clear hK K
          try simp only [zA, zS, zZ, Act.put, zP, zQ, zR]
          refine Node.on 0 rfl (fun K hK => ?_)
          refine wp_load_mid 84 (.tmp 5) (by rfl) (w.heap.size + 1 + 1) 0 (by rfl) [v, .int .i64 N] _ (range_of (cs := [v, .int .i64 N]) P.xv.x) Tryz.underlying84 rfl bits_size28 ?_
          refine hK.out _ _ (hZ.out _ _ _ _ _ P) (fun _ => ?_)
          clear hK K
          try simp only [zA, zS, zZ, Act.put, zP, zQ, zR]
          refine Node.on 5 rfl (fun K hK => ?_)
          refine Node.wp_fn 63 [.tmp 14, .tmp 18] _ [Bt.bv v N, .bool x0] (by rfl) (by kernel_rfl) enFl.out (flag28_c v B lb x0 N N1 _ P.xv.n HN1.out P.xv.sl P.xv.h (by have := HLL.out; omega)) ?_
          rintro e V2 ⟨bF, A2, c2, B2, rfl, s2, h2⟩
          refine ⟨_, rfl, ?_⟩
          replace P := P.later bF
          clear bF
          refine hK.out _ _ (hZ.out _ _ _ _ _ P) (fun _ => ?_)
          clear hK K
          try simp only [zA, zS, zZ, Act.put, zP, zQ, zR]
          refine Node.on 9 rfl (fun K hK => ?_)
          refine Node.wp_fn 64 [.tmp 21, .tmp 22] _ [.int .u32 s.held.toNat, .int .i64 k] (by rfl) (by kernel_rfl) enIs.out (is28_c s.held k x1 _ k32 X1.out.symm) ?_
          rintro e V' ⟨rfl, rfl⟩
          refine ⟨_, rfl, ?_⟩
          refine hK.out _ _ (hZ.out _ _ _ _ _ P) (fun _ => ?_)
          clear hK K
          try simp only [zA, zS, zZ, Act.put, zP, zQ, zR]
          refine Node.on 10 rfl (fun K hK => ?_)
          refine Node.wp_fn 63 [.tmp 19, .tmp 23] _ [Bt.bv (Value.slice A2 B2.length c2) N1, .bool x1] (by rfl) (by kernel_rfl) enFl.out (flag28_c (Value.slice A2 B2.length c2) B2 (lb ++ [x0]) x1 N1 N2 _ (by have h := HN1.out; simp only [List.length_append, List.length_cons, List.length_nil, numBits_length] at h ⊢; omega) HN2.out s2 h2 (by simp only [List.length_append, List.length_cons, List.length_nil, numBits_length]; have := HLL.out; omega)) ?_
          rintro e V3 ⟨bF, A3, c3, B3, rfl, s3, h3⟩
          refine ⟨_, rfl, ?_⟩
          replace P := P.later bF
          try replace s2 := s2.later bF
          clear bF
          refine hK.out _ _ (hZ.out _ _ _ _ _ P) (fun _ => ?_)
          clear hK K
          try simp only [zA, zS, zZ, Act.put, zP, zQ, zR]
          refine Node.on 11 rfl (fun K hK => ?_)
          obtain ⟨V', hW, P', ths⟩ := P.fill (N' := N2) s3 h3 (by have h := HN2.out; simp only [List.length_append, List.length_cons, List.length_nil, numBits_length] at h ⊢; omega)
          refine wp_store_mid 84 (.tmp 5) (.tmp 24) (by rfl) (w.heap.size + 1 + 1) 0 [(Value.slice A3 B3.length c3), .int .i64 N2].toArray (by rfl) (by rfl) ths bits_size28 (one_bits28 rfl _) ?_
          rw [hW]
          clear hW ths P
          have P := P'
          clear P'
          refine hK.out _ _ (hZ.out _ _ _ _ _ P) (fun _ => ?_)
          clear hK K
          try simp only [zA, zS, zZ, Act.put, zP, zQ, zR]
          refine wpAnyH_done (by kernel_rfl) ?_ _
          go_wp2
          go_meet
          exact ⟨_, _, _, P⟩
      case rest =>
        clear P
        obtain ⟨v, B, N, P⟩ := hcut
        obtain ⟨zk, hzk⟩ : ∃ z, kinds[k]? = some z := ⟨_, List.getElem?_eq_getElem (by have := HM1.out; omega)⟩
        obtain ⟨pb, hpb⟩ : ∃ b, (zk == 2) = b := ⟨_, rfl⟩
        have hkd : (kinds.getD k 0 == 2) = pb := by rw [List.getD_eq_getElem?_getD, hzk]; exact hpb
        have hkl : k < kinds.length := by have := HM1.out; omega
        have LYw := HL.out.later P.xv.b
        obtain ⟨A', c', hv, hc0, hc1, hsl⟩ := LYw.sa
        obtain ⟨bs, off, hA', hlb, hcell⟩ := hsl.resolve_left (by omega)
        have y0 := hcell k zk hzk
        have yA := cell_list P.l HL.out.f.sec
        obtain ⟨rfl, _, rfl⟩ := Value.slice.inj hv
        rw [hA'] at yA
        have ii : (k : Int) < (kinds.length : Int) := by omega
        have HKD := Lib.hid hkd
        clear hv hsl hcell hzk hkd LYw hlb hc0 hc1
        cases pb
        · go_wp2
          go_roundw
          case rel => exact ⟨k + 1, _, _, _, by omega, by go_num, by rw [sec_np HKD.out, HLB.out, X0.out, X1.out]; exact P⟩
          case measure => simp [intOf]; omega
        · obtain ⟨x2, hx2⟩ : ∃ b, s.normal.getLsbD k = b := ⟨_, rfl⟩
          obtain ⟨x3, hx3⟩ : ∃ b, s.reverse.getLsbD k = b := ⟨_, rfl⟩
          obtain ⟨x4, hx4⟩ : ∃ b, s.locked.getLsbD k = b := ⟨_, rfl⟩
          have X2 := Lib.hid hx2
          have X3 := Lib.hid hx3
          have X4 := Lib.hid hx4
          clear hx2 hx3 hx4
          go_upto_region 7 with (fail)
          clear y0 yA ii hpb
          obtain ⟨l2, hl2⟩ : ∃ l, (lb ++ [x0]) ++ [x1] = l := ⟨_, rfl⟩
          have hll2 : l2.length ≤ 202 := by rw [← hl2]; simp only [List.length_append, List.length_cons, List.length_nil]; have := HLL.out; omega
          rw [hl2] at P
          have HL2 := Lib.hid hl2
          have HLL2 := Lib.hid hll2
          clear hl2 hll2
          have hZ := Lib.hid (fun (W : World) (v : Value) (B : List (BitVec 8)) (l : List Bool) (N : Int) (P : PB w W L S v B l N) => And.intro (cell_list P.s HS2.out) (And.intro (cell_list P.s HS3.out) (cell_list P.s HS4.out)))
          obtain ⟨N1, hN1⟩ : ∃ N : Int, N = ((l2.length + 2 : Nat) : Int) := ⟨_, rfl⟩
          have HN1 := Lib.hid hN1
          clear hN1
          obtain ⟨N2, hN2⟩ : ∃ N : Int, N = (((l2 ++ numBits (oneN x2 x3) 2).length + 1 : Nat) : Int) := ⟨_, rfl⟩
          have HN2 := Lib.hid hN2
          clear hN2
          refine wp_region_held_drew (S := (fun w' => w'.cell? ⟨w.heap.size + 1, 2, none⟩ = some (.int .u32 s.normal.toNat) ∧ w'.cell? ⟨w.heap.size + 1, 3, none⟩ = some (.int .u32 s.reverse.toNat) ∧ w'.cell? ⟨w.heap.size + 1, 4, none⟩ = some (.int .u32 s.locked.toNat))) (by kernel_rfl) ?_ (fun hHeld => ?_)
          · exact hZ.out _ _ _ _ _ (P.later (Below.refl _ _).drew)
          replace P := P.later (Below.refl _ _).drew
          refine Node.tk 1 ?_ rfl ?_ ?_
          rotate_left
          · intro w hSw; (try dsimp only at hSw); go_simp; try with_reducible rfl
          simp only [zA, zS, zZ, Act.put, zP, zQ, zR]
          refine Node.tk 2 ?_ rfl ?_ ?_
          rotate_left
          · intro w hSw; (try dsimp only at hSw); go_simp; try with_reducible rfl
          simp only [zA, zS, zZ, Act.put, zP, zQ, zR]
          refine Node.tk 3 ?_ rfl ?_ ?_
          rotate_left
          · intro w hSw; (try dsimp only at hSw); go_simp; try with_reducible rfl
          simp only [zA, zS, zZ, Act.put, zP, zQ, zR]
          refine Node.tk 5 ?_ rfl ?_ ?_
          rotate_left
          · intro w hSw; (try dsimp only at hSw); go_simp; try with_reducible rfl
          simp only [zA, zS, zZ, Act.put, zP, zQ, zR]
          refine Node.tk 6 ?_ rfl ?_ ?_
          rotate_left
          · intro w hSw; (try dsimp only at hSw); go_simp; try with_reducible rfl
          simp only [zA, zS, zZ, Act.put, zP, zQ, zR]
          refine Node.tk 7 ?_ rfl ?_ ?_
          rotate_left
          · intro w hSw; (try dsimp only at hSw); go_simp; try with_reducible rfl
          simp only [zA, zS, zZ, Act.put, zP, zQ, zR]
          refine Node.tk 11 ?_ rfl ?_ ?_
          rotate_left
          · intro w hSw; (try dsimp only at hSw); go_simp; try with_reducible rfl
          simp only [zA, zS, zZ, Act.put, zP, zQ, zR]
          refine Node.tk 12 ?_ rfl ?_ ?_
          rotate_left
          · intro w hSw; (try dsimp only at hSw); go_simp; try with_reducible rfl
          simp only [zA, zS, zZ, Act.put, zP, zQ, zR]
          refine Node.tk 13 ?_ rfl ?_ ?_
          rotate_left
          · intro w hSw; (try dsimp only at hSw); go_simp; try with_reducible rfl
          simp only [zA, zS, zZ, Act.put, zP, zQ, zR]
          clear hHeld
          refine wpAnyH_ready (rs := [0, 4]) (by kernel_rfl) (by simp) ?_
          refine AllReadyH.cons rfl (fun K hK => ?_) (AllReadyH.cons rfl (fun K hK => ?_) AllReadyH.nil)
          · skip
            refine wp_load_mid 84 (.tmp 5) (by rfl) (w.heap.size + 1 + 1) 0 (by rfl) [v, .int .i64 N] _ (range_of (cs := [v, .int .i64 N]) P.xv.x) Tryz.underlying84 rfl bits_size28 ?_
            refine hK.out _ _ (hZ.out _ _ _ _ _ P) (fun _ => ?_)
            clear hK K
            try simp only [zA, zS, zZ, Act.put, zP, zQ, zR]
            refine Node.on 4 rfl (fun K hK => ?_)
            refine Node.wp_fn 64 [.tmp 34, .tmp 35] _ [.int .u32 s.normal.toNat, .int .i64 k] (by rfl) (by kernel_rfl) enIs.out (is28_c s.normal k x2 _ k32 X2.out.symm) ?_
            rintro e V' ⟨rfl, rfl⟩
            refine ⟨_, rfl, ?_⟩
            refine hK.out _ _ (hZ.out _ _ _ _ _ P) (fun _ => ?_)
            clear hK K
            try simp only [zA, zS, zZ, Act.put, zP, zQ, zR]
            refine Node.on 8 rfl (fun K hK => ?_)
            refine Node.wp_fn 64 [.tmp 38, .tmp 39] _ [.int .u32 s.reverse.toNat, .int .i64 k] (by rfl) (by kernel_rfl) enIs.out (is28_c s.reverse k x3 _ k32 X3.out.symm) ?_
            rintro e V' ⟨rfl, rfl⟩
            refine ⟨_, rfl, ?_⟩
            refine hK.out _ _ (hZ.out _ _ _ _ _ P) (fun _ => ?_)
            clear hK K
            try simp only [zA, zS, zZ, Act.put, zP, zQ, zR]
            refine Node.on 9 rfl (fun K hK => ?_)
            refine Node.wp_fn 66 [.tmp 36, .tmp 40] _ [.bool x2, .bool x3] (by rfl) (by kernel_rfl) enOn.out (one28_c x2 x3 _) ?_
            rintro e V' ⟨rfl, rfl⟩
            refine ⟨_, rfl, ?_⟩
            refine hK.out _ _ (hZ.out _ _ _ _ _ P) (fun _ => ?_)
            clear hK K
            try simp only [zA, zS, zZ, Act.put, zP, zQ, zR]
            refine Node.on 10 rfl (fun K hK => ?_)
            refine Node.wp_fn 65 [.tmp 32, .tmp 41, .const (.int .i64 2)] _ [Bt.bv v N, .int .i64 (oneN x2 x3 : Nat), .int .i64 2] (by rfl) (by kernel_rfl) enPu.out (put28_c v B l2 (oneN x2 x3) 2 N N1 _ _ _ P.xv.n HN1.out rfl rfl P.xv.sl P.xv.h (by have := HLL2.out; omega) (by omega) (oneN_lt _ _)) ?_
            rintro e V2 ⟨bF, A2, c2, B2, rfl, s2, h2⟩
            refine ⟨_, rfl, ?_⟩
            replace P := P.later bF
            clear bF
            refine hK.out _ _ (hZ.out _ _ _ _ _ P) (fun _ => ?_)
            clear hK K
            try simp only [zA, zS, zZ, Act.put, zP, zQ, zR]
            refine Node.on 14 rfl (fun K hK => ?_)
            refine Node.wp_fn 64 [.tmp 44, .tmp 45] _ [.int .u32 s.locked.toNat, .int .i64 k] (by rfl) (by kernel_rfl) enIs.out (is28_c s.locked k x4 _ k32 X4.out.symm) ?_
            rintro e V' ⟨rfl, rfl⟩
            refine ⟨_, rfl, ?_⟩
            refine hK.out _ _ (hZ.out _ _ _ _ _ P) (fun _ => ?_)
            clear hK K
            try simp only [zA, zS, zZ, Act.put, zP, zQ, zR]
            refine Node.on 15 rfl (fun K hK => ?_)
            refine Node.wp_fn 63 [.tmp 42, .tmp 46] _ [Bt.bv (Value.slice A2 B2.length c2) N1, .bool x4] (by rfl) (by kernel_rfl) enFl.out (flag28_c (Value.slice A2 B2.length c2) B2 (l2 ++ numBits (oneN x2 x3) 2) x4 N1 N2 _ (by have h := HN1.out; simp only [List.length_append, List.length_cons, List.length_nil, numBits_length] at h ⊢; omega) HN2.out s2 h2 (by simp only [List.length_append, List.length_cons, List.length_nil, numBits_length]; have := HLL2.out; omega)) ?_
            rintro e V3 ⟨bF, A3, c3, B3, rfl, s3, h3⟩
            refine ⟨_, rfl, ?_⟩
            replace P := P.later bF
            try replace s2 := s2.later bF
            clear bF
            refine hK.out _ _ (hZ.out _ _ _ _ _ P) (fun _ => ?_)
            clear hK K
            try simp only [zA, zS, zZ, Act.put, zP, zQ, zR]
            refine Node.on 16 rfl (fun K hK => ?_)
            obtain ⟨V', hW, P', ths⟩ := P.fill (N' := N2) s3 h3 (by have h := HN2.out; simp only [List.length_append, List.length_cons, List.length_nil, numBits_length] at h ⊢; omega)
            refine wp_store_mid 84 (.tmp 5) (.tmp 47) (by rfl) (w.heap.size + 1 + 1) 0 [(Value.slice A3 B3.length c3), .int .i64 N2].toArray (by rfl) (by rfl) ths bits_size28 (one_bits28 rfl _) ?_
            rw [hW]
            clear hW ths P
            have P := P'
            clear P'
            refine hK.out _ _ (hZ.out _ _ _ _ _ P) (fun _ => ?_)
            clear hK K
            try simp only [zA, zS, zZ, Act.put, zP, zQ, zR]
            refine wpAnyH_done (by kernel_rfl) ?_ _
            go_wp2
            go_roundw
            case rel => exact ⟨k + 1, _, _, _, by omega, by go_num, by rw [sec_p HKD.out, HLB.out, X0.out, X1.out, X2.out, X3.out, X4.out, HL2.out]; exact P⟩
            case measure => simp [intOf]; omega
          · skip
            refine Node.wp_fn 64 [.tmp 34, .tmp 35] _ [.int .u32 s.normal.toNat, .int .i64 k] (by rfl) (by kernel_rfl) enIs.out (is28_c s.normal k x2 _ k32 X2.out.symm) ?_
            rintro e V' ⟨rfl, rfl⟩
            refine ⟨_, rfl, ?_⟩
            refine hK.out _ _ (hZ.out _ _ _ _ _ P) (fun _ => ?_)
            clear hK K
            try simp only [zA, zS, zZ, Act.put, zP, zQ, zR]
            refine wpAnyH_ready (rs := [0, 8]) (by kernel_rfl) (by simp) ?_
            refine AllReadyH.cons rfl (fun K hK => ?_) (AllReadyH.cons rfl (fun K hK => ?_) AllReadyH.nil)
            · skip
              refine wp_load_mid 84 (.tmp 5) (by rfl) (w.heap.size + 1 + 1) 0 (by rfl) [v, .int .i64 N] _ (range_of (cs := [v, .int .i64 N]) P.xv.x) Tryz.underlying84 rfl bits_size28 ?_
              refine hK.out _ _ (hZ.out _ _ _ _ _ P) (fun _ => ?_)
              clear hK K
              try simp only [zA, zS, zZ, Act.put, zP, zQ, zR]
              refine Node.on 8 rfl (fun K hK => ?_)
              refine Node.wp_fn 64 [.tmp 38, .tmp 39] _ [.int .u32 s.reverse.toNat, .int .i64 k] (by rfl) (by kernel_rfl) enIs.out (is28_c s.reverse k x3 _ k32 X3.out.symm) ?_
              rintro e V' ⟨rfl, rfl⟩
              refine ⟨_, rfl, ?_⟩
              refine hK.out _ _ (hZ.out _ _ _ _ _ P) (fun _ => ?_)
              clear hK K
              try simp only [zA, zS, zZ, Act.put, zP, zQ, zR]
              refine Node.on 9 rfl (fun K hK => ?_)
              refine Node.wp_fn 66 [.tmp 36, .tmp 40] _ [.bool x2, .bool x3] (by rfl) (by kernel_rfl) enOn.out (one28_c x2 x3 _) ?_
              rintro e V' ⟨rfl, rfl⟩
              refine ⟨_, rfl, ?_⟩
              refine hK.out _ _ (hZ.out _ _ _ _ _ P) (fun _ => ?_)
              clear hK K
              try simp only [zA, zS, zZ, Act.put, zP, zQ, zR]
              refine Node.on 10 rfl (fun K hK => ?_)
              refine Node.wp_fn 65 [.tmp 32, .tmp 41, .const (.int .i64 2)] _ [Bt.bv v N, .int .i64 (oneN x2 x3 : Nat), .int .i64 2] (by rfl) (by kernel_rfl) enPu.out (put28_c v B l2 (oneN x2 x3) 2 N N1 _ _ _ P.xv.n HN1.out rfl rfl P.xv.sl P.xv.h (by have := HLL2.out; omega) (by omega) (oneN_lt _ _)) ?_
              rintro e V2 ⟨bF, A2, c2, B2, rfl, s2, h2⟩
              refine ⟨_, rfl, ?_⟩
              replace P := P.later bF
              clear bF
              refine hK.out _ _ (hZ.out _ _ _ _ _ P) (fun _ => ?_)
              clear hK K
              try simp only [zA, zS, zZ, Act.put, zP, zQ, zR]
              refine Node.on 14 rfl (fun K hK => ?_)
              refine Node.wp_fn 64 [.tmp 44, .tmp 45] _ [.int .u32 s.locked.toNat, .int .i64 k] (by rfl) (by kernel_rfl) enIs.out (is28_c s.locked k x4 _ k32 X4.out.symm) ?_
              rintro e V' ⟨rfl, rfl⟩
              refine ⟨_, rfl, ?_⟩
              refine hK.out _ _ (hZ.out _ _ _ _ _ P) (fun _ => ?_)
              clear hK K
              try simp only [zA, zS, zZ, Act.put, zP, zQ, zR]
              refine Node.on 15 rfl (fun K hK => ?_)
              refine Node.wp_fn 63 [.tmp 42, .tmp 46] _ [Bt.bv (Value.slice A2 B2.length c2) N1, .bool x4] (by rfl) (by kernel_rfl) enFl.out (flag28_c (Value.slice A2 B2.length c2) B2 (l2 ++ numBits (oneN x2 x3) 2) x4 N1 N2 _ (by have h := HN1.out; simp only [List.length_append, List.length_cons, List.length_nil, numBits_length] at h ⊢; omega) HN2.out s2 h2 (by simp only [List.length_append, List.length_cons, List.length_nil, numBits_length]; have := HLL2.out; omega)) ?_
              rintro e V3 ⟨bF, A3, c3, B3, rfl, s3, h3⟩
              refine ⟨_, rfl, ?_⟩
              replace P := P.later bF
              try replace s2 := s2.later bF
              clear bF
              refine hK.out _ _ (hZ.out _ _ _ _ _ P) (fun _ => ?_)
              clear hK K
              try simp only [zA, zS, zZ, Act.put, zP, zQ, zR]
              refine Node.on 16 rfl (fun K hK => ?_)
              obtain ⟨V', hW, P', ths⟩ := P.fill (N' := N2) s3 h3 (by have h := HN2.out; simp only [List.length_append, List.length_cons, List.length_nil, numBits_length] at h ⊢; omega)
              refine wp_store_mid 84 (.tmp 5) (.tmp 47) (by rfl) (w.heap.size + 1 + 1) 0 [(Value.slice A3 B3.length c3), .int .i64 N2].toArray (by rfl) (by rfl) ths bits_size28 (one_bits28 rfl _) ?_
              rw [hW]
              clear hW ths P
              have P := P'
              clear P'
              refine hK.out _ _ (hZ.out _ _ _ _ _ P) (fun _ => ?_)
              clear hK K
              try simp only [zA, zS, zZ, Act.put, zP, zQ, zR]
              refine wpAnyH_done (by kernel_rfl) ?_ _
              go_wp2
              go_roundw
              case rel => exact ⟨k + 1, _, _, _, by omega, by go_num, by rw [sec_p HKD.out, HLB.out, X0.out, X1.out, X2.out, X3.out, X4.out, HL2.out]; exact P⟩
              case measure => simp [intOf]; omega
            · skip
              refine Node.wp_fn 64 [.tmp 38, .tmp 39] _ [.int .u32 s.reverse.toNat, .int .i64 k] (by rfl) (by kernel_rfl) enIs.out (is28_c s.reverse k x3 _ k32 X3.out.symm) ?_
              rintro e V' ⟨rfl, rfl⟩
              refine ⟨_, rfl, ?_⟩
              refine hK.out _ _ (hZ.out _ _ _ _ _ P) (fun _ => ?_)
              clear hK K
              try simp only [zA, zS, zZ, Act.put, zP, zQ, zR]
              refine wpAnyH_ready (rs := [0, 9]) (by kernel_rfl) (by simp) ?_
              refine AllReadyH.cons rfl (fun K hK => ?_) (AllReadyH.cons rfl (fun K hK => ?_) AllReadyH.nil)
              · skip
                refine wp_load_mid 84 (.tmp 5) (by rfl) (w.heap.size + 1 + 1) 0 (by rfl) [v, .int .i64 N] _ (range_of (cs := [v, .int .i64 N]) P.xv.x) Tryz.underlying84 rfl bits_size28 ?_
                refine hK.out _ _ (hZ.out _ _ _ _ _ P) (fun _ => ?_)
                clear hK K
                try simp only [zA, zS, zZ, Act.put, zP, zQ, zR]
                refine Node.on 9 rfl (fun K hK => ?_)
                refine Node.wp_fn 66 [.tmp 36, .tmp 40] _ [.bool x2, .bool x3] (by rfl) (by kernel_rfl) enOn.out (one28_c x2 x3 _) ?_
                rintro e V' ⟨rfl, rfl⟩
                refine ⟨_, rfl, ?_⟩
                refine hK.out _ _ (hZ.out _ _ _ _ _ P) (fun _ => ?_)
                clear hK K
                try simp only [zA, zS, zZ, Act.put, zP, zQ, zR]
                refine Node.on 10 rfl (fun K hK => ?_)
                refine Node.wp_fn 65 [.tmp 32, .tmp 41, .const (.int .i64 2)] _ [Bt.bv v N, .int .i64 (oneN x2 x3 : Nat), .int .i64 2] (by rfl) (by kernel_rfl) enPu.out (put28_c v B l2 (oneN x2 x3) 2 N N1 _ _ _ P.xv.n HN1.out rfl rfl P.xv.sl P.xv.h (by have := HLL2.out; omega) (by omega) (oneN_lt _ _)) ?_
                rintro e V2 ⟨bF, A2, c2, B2, rfl, s2, h2⟩
                refine ⟨_, rfl, ?_⟩
                replace P := P.later bF
                clear bF
                refine hK.out _ _ (hZ.out _ _ _ _ _ P) (fun _ => ?_)
                clear hK K
                try simp only [zA, zS, zZ, Act.put, zP, zQ, zR]
                refine Node.on 14 rfl (fun K hK => ?_)
                refine Node.wp_fn 64 [.tmp 44, .tmp 45] _ [.int .u32 s.locked.toNat, .int .i64 k] (by rfl) (by kernel_rfl) enIs.out (is28_c s.locked k x4 _ k32 X4.out.symm) ?_
                rintro e V' ⟨rfl, rfl⟩
                refine ⟨_, rfl, ?_⟩
                refine hK.out _ _ (hZ.out _ _ _ _ _ P) (fun _ => ?_)
                clear hK K
                try simp only [zA, zS, zZ, Act.put, zP, zQ, zR]
                refine Node.on 15 rfl (fun K hK => ?_)
                refine Node.wp_fn 63 [.tmp 42, .tmp 46] _ [Bt.bv (Value.slice A2 B2.length c2) N1, .bool x4] (by rfl) (by kernel_rfl) enFl.out (flag28_c (Value.slice A2 B2.length c2) B2 (l2 ++ numBits (oneN x2 x3) 2) x4 N1 N2 _ (by have h := HN1.out; simp only [List.length_append, List.length_cons, List.length_nil, numBits_length] at h ⊢; omega) HN2.out s2 h2 (by simp only [List.length_append, List.length_cons, List.length_nil, numBits_length]; have := HLL2.out; omega)) ?_
                rintro e V3 ⟨bF, A3, c3, B3, rfl, s3, h3⟩
                refine ⟨_, rfl, ?_⟩
                replace P := P.later bF
                try replace s2 := s2.later bF
                clear bF
                refine hK.out _ _ (hZ.out _ _ _ _ _ P) (fun _ => ?_)
                clear hK K
                try simp only [zA, zS, zZ, Act.put, zP, zQ, zR]
                refine Node.on 16 rfl (fun K hK => ?_)
                obtain ⟨V', hW, P', ths⟩ := P.fill (N' := N2) s3 h3 (by have h := HN2.out; simp only [List.length_append, List.length_cons, List.length_nil, numBits_length] at h ⊢; omega)
                refine wp_store_mid 84 (.tmp 5) (.tmp 47) (by rfl) (w.heap.size + 1 + 1) 0 [(Value.slice A3 B3.length c3), .int .i64 N2].toArray (by rfl) (by rfl) ths bits_size28 (one_bits28 rfl _) ?_
                rw [hW]
                clear hW ths P
                have P := P'
                clear P'
                refine hK.out _ _ (hZ.out _ _ _ _ _ P) (fun _ => ?_)
                clear hK K
                try simp only [zA, zS, zZ, Act.put, zP, zQ, zR]
                refine wpAnyH_done (by kernel_rfl) ?_ _
                go_wp2
                go_roundw
                case rel => exact ⟨k + 1, _, _, _, by omega, by go_num, by rw [sec_p HKD.out, HLB.out, X0.out, X1.out, X2.out, X3.out, X4.out, HL2.out]; exact P⟩
                case measure => simp [intOf]; omega
              · skip
                refine Node.wp_fn 66 [.tmp 36, .tmp 40] _ [.bool x2, .bool x3] (by rfl) (by kernel_rfl) enOn.out (one28_c x2 x3 _) ?_
                rintro e V' ⟨rfl, rfl⟩
                refine ⟨_, rfl, ?_⟩
                refine hK.out _ _ (hZ.out _ _ _ _ _ P) (fun _ => ?_)
                clear hK K
                try simp only [zA, zS, zZ, Act.put, zP, zQ, zR]
                refine Node.on 0 rfl (fun K hK => ?_)
                refine wp_load_mid 84 (.tmp 5) (by rfl) (w.heap.size + 1 + 1) 0 (by rfl) [v, .int .i64 N] _ (range_of (cs := [v, .int .i64 N]) P.xv.x) Tryz.underlying84 rfl bits_size28 ?_
                refine hK.out _ _ (hZ.out _ _ _ _ _ P) (fun _ => ?_)
                clear hK K
                try simp only [zA, zS, zZ, Act.put, zP, zQ, zR]
                refine Node.on 10 rfl (fun K hK => ?_)
                refine Node.wp_fn 65 [.tmp 32, .tmp 41, .const (.int .i64 2)] _ [Bt.bv v N, .int .i64 (oneN x2 x3 : Nat), .int .i64 2] (by rfl) (by kernel_rfl) enPu.out (put28_c v B l2 (oneN x2 x3) 2 N N1 _ _ _ P.xv.n HN1.out rfl rfl P.xv.sl P.xv.h (by have := HLL2.out; omega) (by omega) (oneN_lt _ _)) ?_
                rintro e V2 ⟨bF, A2, c2, B2, rfl, s2, h2⟩
                refine ⟨_, rfl, ?_⟩
                replace P := P.later bF
                clear bF
                refine hK.out _ _ (hZ.out _ _ _ _ _ P) (fun _ => ?_)
                clear hK K
                try simp only [zA, zS, zZ, Act.put, zP, zQ, zR]
                refine Node.on 14 rfl (fun K hK => ?_)
                refine Node.wp_fn 64 [.tmp 44, .tmp 45] _ [.int .u32 s.locked.toNat, .int .i64 k] (by rfl) (by kernel_rfl) enIs.out (is28_c s.locked k x4 _ k32 X4.out.symm) ?_
                rintro e V' ⟨rfl, rfl⟩
                refine ⟨_, rfl, ?_⟩
                refine hK.out _ _ (hZ.out _ _ _ _ _ P) (fun _ => ?_)
                clear hK K
                try simp only [zA, zS, zZ, Act.put, zP, zQ, zR]
                refine Node.on 15 rfl (fun K hK => ?_)
                refine Node.wp_fn 63 [.tmp 42, .tmp 46] _ [Bt.bv (Value.slice A2 B2.length c2) N1, .bool x4] (by rfl) (by kernel_rfl) enFl.out (flag28_c (Value.slice A2 B2.length c2) B2 (l2 ++ numBits (oneN x2 x3) 2) x4 N1 N2 _ (by have h := HN1.out; simp only [List.length_append, List.length_cons, List.length_nil, numBits_length] at h ⊢; omega) HN2.out s2 h2 (by simp only [List.length_append, List.length_cons, List.length_nil, numBits_length]; have := HLL2.out; omega)) ?_
                rintro e V3 ⟨bF, A3, c3, B3, rfl, s3, h3⟩
                refine ⟨_, rfl, ?_⟩
                replace P := P.later bF
                try replace s2 := s2.later bF
                clear bF
                refine hK.out _ _ (hZ.out _ _ _ _ _ P) (fun _ => ?_)
                clear hK K
                try simp only [zA, zS, zZ, Act.put, zP, zQ, zR]
                refine Node.on 16 rfl (fun K hK => ?_)
                obtain ⟨V', hW, P', ths⟩ := P.fill (N' := N2) s3 h3 (by have h := HN2.out; simp only [List.length_append, List.length_cons, List.length_nil, numBits_length] at h ⊢; omega)
                refine wp_store_mid 84 (.tmp 5) (.tmp 47) (by rfl) (w.heap.size + 1 + 1) 0 [(Value.slice A3 B3.length c3), .int .i64 N2].toArray (by rfl) (by rfl) ths bits_size28 (one_bits28 rfl _) ?_
                rw [hW]
                clear hW ths P
                have P := P'
                clear P'
                refine hK.out _ _ (hZ.out _ _ _ _ _ P) (fun _ => ?_)
                clear hK K
                try simp only [zA, zS, zZ, Act.put, zP, zQ, zR]
                refine wpAnyH_done (by kernel_rfl) ?_ _
                go_wp2
                go_roundw
                case rel => exact ⟨k + 1, _, _, _, by omega, by go_num, by rw [sec_p HKD.out, HLB.out, X0.out, X1.out, X2.out, X3.out, X4.out, HL2.out]; exact P⟩
                case measure => simp [intOf]; omega
    · obtain rfl : k = m1 := by omega
      have i2 : decide (k < k) = false := decide_eq_false (by omega)
      go_upto_region 8 with (fail)
      obtain ⟨ls, hls⟩ : ∃ ls, fbits (secsF s kinds k) = ls := ⟨_, rfl⟩
      have hls2 : ls.length ≤ 200 := by rw [← hls, fbits_len]; have := secs_le28 s kinds k; omega
      have P1 : PB w W1 L S v B (ls ++ fbits (sigsF s 0)) N := by rw [← hls]; simpa [sigsF, fbits] using P
      have HLS := Lib.hid hls
      have HLS2 := Lib.hid hls2
      clear P hls hls2
      go_wp2
      go_loopw [7] (fun i wj => ∃ (j : Nat) (v : Value) (B : List (BitVec 8)) (N : Int), j ≤ m2 ∧ i = .int .i64 j ∧ PB w wj L S v B (ls ++ fbits (sigsF s j)) N) (fun i _ => m2 - (intOf i).toNat)
      case atStart => exact ⟨0, _, _, _, Nat.zero_le _, rfl, P1⟩
      case round =>
        clear P1
        obtain ⟨k, v, B, N, hj, rfl, P⟩ := hrel
        have RL := range_of P.l
        go_wp2_with (first
          | refine wpList_load_k 29 (.tmp 2) (by rfl) w.heap.size 0 (by rfl) L _ RL Tryz.underlying29 rfl szL (by kernel_rfl) ?_
          | fail)
        refine (signals28_c L nsig A1 c1 (m2 : Int) _ (by rw [HM2.out]) HL.out.f.sig).mono ?_
        rintro e W2 ⟨rfl, b2⟩
        replace P := P.later b2
        clear b2 RL
        by_cases hlt2 : k < m2
        · have i3 : (k : Int) < (m2 : Int) := by omega
          have i4 : decide (k < m2) = true := decide_eq_true hlt2
          have k32 : k < 32 := by omega
          obtain ⟨lb, hlb⟩ : ∃ lb, ls ++ fbits (sigsF s k) = lb := ⟨_, rfl⟩
          have hll : lb.length ≤ 300 := by rw [← hlb, List.length_append, fbits_len, sigsF_w]; have := HLS2.out; omega
          rw [hlb] at P
          have HLB := Lib.hid hlb
          have HLL := Lib.hid hll
          obtain ⟨x5, hx5⟩ : ∃ b, s.off.getLsbD k = b := ⟨_, rfl⟩
          obtain ⟨x6, hx6⟩ : ∃ b, s.steady.getLsbD k = b := ⟨_, rfl⟩
          obtain ⟨x7, hx7⟩ : ∃ b, s.flash.getLsbD k = b := ⟨_, rfl⟩
          obtain ⟨x8, hx8⟩ : ∃ b, s.autos.getLsbD k = b := ⟨_, rfl⟩
          have X5 := Lib.hid hx5
          have X6 := Lib.hid hx6
          have X7 := Lib.hid hx7
          have X8 := Lib.hid hx8
          clear hlb hll hx5 hx6 hx7 hx8
          go_upto_region 11 with (fail)
          go_cut [59] from 54 to 58 (fun x59 wx => ∃ (v' : Value) (B' : List (BitVec 8)) (N' : Int), PB w wx L S v' B' (lb ++ [x5]) N')
          case first =>
            have hZ := Lib.hid (fun (W : World) (v : Value) (B : List (BitVec 8)) (l : List Bool) (N : Int) (P : PB w W L S v B l N) => cell_list P.s HS5.out)
            obtain ⟨N1, hN1⟩ : ∃ N : Int, N = ((lb.length + 1 : Nat) : Int) := ⟨_, rfl⟩
            have HN1 := Lib.hid hN1
            clear hN1
            refine wp_region_held_drew (S := (fun w' => w'.cell? ⟨w.heap.size + 1, 5, none⟩ = some (.int .u32 s.off.toNat))) (by kernel_rfl) ?_ (fun hHeld => ?_)
            · exact hZ.out _ _ _ _ _ (P.later (Below.refl _ _).drew)
            replace P := P.later (Below.refl _ _).drew
            refine Node.tk 1 ?_ rfl ?_ ?_
            rotate_left
            · intro w hSw; (try dsimp only at hSw); go_simp; try with_reducible rfl
            simp only [zA, zS, zZ, Act.put, zP, zQ, zR]
            refine Node.tk 2 ?_ rfl ?_ ?_
            rotate_left
            · intro w hSw; (try dsimp only at hSw); go_simp; try with_reducible rfl
            simp only [zA, zS, zZ, Act.put, zP, zQ, zR]
            refine Node.tk 3 ?_ rfl ?_ ?_
            rotate_left
            · intro w hSw; (try dsimp only at hSw); go_simp; try with_reducible rfl
            simp only [zA, zS, zZ, Act.put, zP, zQ, zR]
            clear hHeld
            refine wpAnyH_ready (rs := [0, 4]) (by kernel_rfl) (by simp) ?_
            refine AllReadyH.cons rfl (fun K hK => ?_) (AllReadyH.cons rfl (fun K hK => ?_) AllReadyH.nil)
            · skip
              refine wp_load_mid 84 (.tmp 5) (by rfl) (w.heap.size + 1 + 1) 0 (by rfl) [v, .int .i64 N] _ (range_of (cs := [v, .int .i64 N]) P.xv.x) Tryz.underlying84 rfl bits_size28 ?_
              refine hK.out _ _ (hZ.out _ _ _ _ _ P) (fun _ => ?_)
              clear hK K
              try simp only [zA, zS, zZ, Act.put, zP, zQ, zR]
              refine Node.on 4 rfl (fun K hK => ?_)
              refine Node.wp_fn 64 [.tmp 56, .tmp 57] _ [.int .u32 s.off.toNat, .int .i64 k] (by rfl) (by kernel_rfl) enIs.out (is28_c s.off k x5 _ k32 X5.out.symm) ?_
              rintro e V' ⟨rfl, rfl⟩
              refine ⟨_, rfl, ?_⟩
              refine hK.out _ _ (hZ.out _ _ _ _ _ P) (fun _ => ?_)
              clear hK K
              try simp only [zA, zS, zZ, Act.put, zP, zQ, zR]
              refine Node.on 5 rfl (fun K hK => ?_)
              refine Node.wp_fn 63 [.tmp 54, .tmp 58] _ [Bt.bv v N, .bool x5] (by rfl) (by kernel_rfl) enFl.out (flag28_c v B lb x5 N N1 _ P.xv.n HN1.out P.xv.sl P.xv.h (by have := HLL.out; omega)) ?_
              rintro e V2 ⟨bF, A2, c2, B2, rfl, s2, h2⟩
              refine ⟨_, rfl, ?_⟩
              replace P := P.later bF
              clear bF
              refine hK.out _ _ (hZ.out _ _ _ _ _ P) (fun _ => ?_)
              clear hK K
              try simp only [zA, zS, zZ, Act.put, zP, zQ, zR]
              refine Node.on 6 rfl (fun K hK => ?_)
              obtain ⟨V', hW, P', ths⟩ := P.fill (N' := N1) s2 h2 (by have h := HN1.out; simp only [List.length_append, List.length_cons, List.length_nil, numBits_length] at h ⊢; omega)
              refine wp_store_mid 84 (.tmp 5) (.tmp 59) (by rfl) (w.heap.size + 1 + 1) 0 [(Value.slice A2 B2.length c2), .int .i64 N1].toArray (by rfl) (by rfl) ths bits_size28 (one_bits28 rfl _) ?_
              rw [hW]
              clear hW ths P
              have P := P'
              clear P'
              refine hK.out _ _ (hZ.out _ _ _ _ _ P) (fun _ => ?_)
              clear hK K
              try simp only [zA, zS, zZ, Act.put, zP, zQ, zR]
              refine wpAnyH_done (by kernel_rfl) ?_ _
              go_wp2
              go_meet
              exact ⟨_, _, _, P⟩
            · skip
              refine Node.wp_fn 64 [.tmp 56, .tmp 57] _ [.int .u32 s.off.toNat, .int .i64 k] (by rfl) (by kernel_rfl) enIs.out (is28_c s.off k x5 _ k32 X5.out.symm) ?_
              rintro e V' ⟨rfl, rfl⟩
              refine ⟨_, rfl, ?_⟩
              refine hK.out _ _ (hZ.out _ _ _ _ _ P) (fun _ => ?_)
              clear hK K
              try simp only [zA, zS, zZ, Act.put, zP, zQ, zR]
              refine Node.on 0 rfl (fun K hK => ?_)
              refine wp_load_mid 84 (.tmp 5) (by rfl) (w.heap.size + 1 + 1) 0 (by rfl) [v, .int .i64 N] _ (range_of (cs := [v, .int .i64 N]) P.xv.x) Tryz.underlying84 rfl bits_size28 ?_
              refine hK.out _ _ (hZ.out _ _ _ _ _ P) (fun _ => ?_)
              clear hK K
              try simp only [zA, zS, zZ, Act.put, zP, zQ, zR]
              refine Node.on 5 rfl (fun K hK => ?_)
              refine Node.wp_fn 63 [.tmp 54, .tmp 58] _ [Bt.bv v N, .bool x5] (by rfl) (by kernel_rfl) enFl.out (flag28_c v B lb x5 N N1 _ P.xv.n HN1.out P.xv.sl P.xv.h (by have := HLL.out; omega)) ?_
              rintro e V2 ⟨bF, A2, c2, B2, rfl, s2, h2⟩
              refine ⟨_, rfl, ?_⟩
              replace P := P.later bF
              clear bF
              refine hK.out _ _ (hZ.out _ _ _ _ _ P) (fun _ => ?_)
              clear hK K
              try simp only [zA, zS, zZ, Act.put, zP, zQ, zR]
              refine Node.on 6 rfl (fun K hK => ?_)
              obtain ⟨V', hW, P', ths⟩ := P.fill (N' := N1) s2 h2 (by have h := HN1.out; simp only [List.length_append, List.length_cons, List.length_nil, numBits_length] at h ⊢; omega)
              refine wp_store_mid 84 (.tmp 5) (.tmp 59) (by rfl) (w.heap.size + 1 + 1) 0 [(Value.slice A2 B2.length c2), .int .i64 N1].toArray (by rfl) (by rfl) ths bits_size28 (one_bits28 rfl _) ?_
              rw [hW]
              clear hW ths P
              have P := P'
              clear P'
              refine hK.out _ _ (hZ.out _ _ _ _ _ P) (fun _ => ?_)
              clear hK K
              try simp only [zA, zS, zZ, Act.put, zP, zQ, zR]
              refine wpAnyH_done (by kernel_rfl) ?_ _
              go_wp2
              go_meet
              exact ⟨_, _, _, P⟩
          case rest =>
            clear P
            obtain ⟨v, B, N, P⟩ := hcut
            obtain ⟨l2, hl2⟩ : ∃ l, lb ++ [x5] = l := ⟨_, rfl⟩
            have hll2 : l2.length ≤ 302 := by rw [← hl2]; simp only [List.length_append, List.length_cons, List.length_nil]; have := HLL.out; omega
            rw [hl2] at P
            have HL2 := Lib.hid hl2
            have HLL2 := Lib.hid hll2
            clear hl2 hll2
            go_upto_region 12 with (fail)
            have hZ := Lib.hid (fun (W : World) (v : Value) (B : List (BitVec 8)) (l : List Bool) (N : Int) (P : PB w W L S v B l N) => And.intro (cell_list P.s HS6.out) (And.intro (cell_list P.s HS7.out) (cell_list P.s HS8.out)))
            cases x7
            · skip
              obtain ⟨N1, hN1⟩ : ∃ N : Int, N = ((l2.length + 2 : Nat) : Int) := ⟨_, rfl⟩
              have HN1 := Lib.hid hN1
              clear hN1
              obtain ⟨N2, hN2⟩ : ∃ N : Int, N = (((l2 ++ numBits (oneN x6 false) 2).length + 1 : Nat) : Int) := ⟨_, rfl⟩
              have HN2 := Lib.hid hN2
              clear hN2
              refine wp_region_held_drew (S := (fun w' => w'.cell? ⟨w.heap.size + 1, 6, none⟩ = some (.int .u32 s.steady.toNat) ∧ w'.cell? ⟨w.heap.size + 1, 7, none⟩ = some (.int .u32 s.flash.toNat) ∧ w'.cell? ⟨w.heap.size + 1, 8, none⟩ = some (.int .u32 s.autos.toNat))) (by kernel_rfl) ?_ (fun hHeld => ?_)
              · exact hZ.out _ _ _ _ _ (P.later (Below.refl _ _).drew)
              replace P := P.later (Below.refl _ _).drew
              refine Node.tk 1 ?_ rfl ?_ ?_
              rotate_left
              · intro w hSw; (try dsimp only at hSw); go_simp; try with_reducible rfl
              simp only [zA, zS, zZ, Act.put, zP, zQ, zR]
              refine Node.tk 2 ?_ rfl ?_ ?_
              rotate_left
              · intro w hSw; (try dsimp only at hSw); go_simp; try with_reducible rfl
              simp only [zA, zS, zZ, Act.put, zP, zQ, zR]
              refine Node.tk 3 ?_ rfl ?_ ?_
              rotate_left
              · intro w hSw; (try dsimp only at hSw); go_simp; try with_reducible rfl
              simp only [zA, zS, zZ, Act.put, zP, zQ, zR]
              refine Node.tk 5 ?_ rfl ?_ ?_
              rotate_left
              · intro w hSw; (try dsimp only at hSw); go_simp; try with_reducible rfl
              simp only [zA, zS, zZ, Act.put, zP, zQ, zR]
              refine Node.tk 6 ?_ rfl ?_ ?_
              rotate_left
              · intro w hSw; (try dsimp only at hSw); go_simp; try with_reducible rfl
              simp only [zA, zS, zZ, Act.put, zP, zQ, zR]
              refine Node.tk 7 ?_ rfl ?_ ?_
              rotate_left
              · intro w hSw; (try dsimp only at hSw); go_simp; try with_reducible rfl
              simp only [zA, zS, zZ, Act.put, zP, zQ, zR]
              refine Node.tk 18 ?_ rfl ?_ ?_
              rotate_left
              · intro w hSw; (try dsimp only at hSw); go_simp; try with_reducible rfl
              simp only [zA, zS, zZ, Act.put, zP, zQ, zR]
              refine Node.tk 19 ?_ rfl ?_ ?_
              rotate_left
              · intro w hSw; (try dsimp only at hSw); go_simp; try with_reducible rfl
              simp only [zA, zS, zZ, Act.put, zP, zQ, zR]
              refine Node.tk 20 ?_ rfl ?_ ?_
              rotate_left
              · intro w hSw; (try dsimp only at hSw); go_simp; try with_reducible rfl
              simp only [zA, zS, zZ, Act.put, zP, zQ, zR]
              clear hHeld
              refine wpAnyH_ready (rs := [0, 4]) (by kernel_rfl) (by simp) ?_
              refine AllReadyH.cons rfl (fun K hK => ?_) (AllReadyH.cons rfl (fun K hK => ?_) AllReadyH.nil)
              · skip
                refine wp_load_mid 84 (.tmp 5) (by rfl) (w.heap.size + 1 + 1) 0 (by rfl) [v, .int .i64 N] _ (range_of (cs := [v, .int .i64 N]) P.xv.x) Tryz.underlying84 rfl bits_size28 ?_
                refine hK.out _ _ (hZ.out _ _ _ _ _ P) (fun _ => ?_)
                clear hK K
                try simp only [zA, zS, zZ, Act.put, zP, zQ, zR]
                refine Node.on 4 rfl (fun K hK => ?_)
                refine Node.wp_fn 64 [.tmp 62, .tmp 63] _ [.int .u32 s.steady.toNat, .int .i64 k] (by rfl) (by kernel_rfl) enIs.out (is28_c s.steady k x6 _ k32 X6.out.symm) ?_
                rintro e V' ⟨rfl, rfl⟩
                refine ⟨_, rfl, ?_⟩
                refine hK.out _ _ (hZ.out _ _ _ _ _ P) (fun _ => ?_)
                clear hK K
                try simp only [zA, zS, zZ, Act.put, zP, zQ, zR]
                refine Node.on 8 rfl (fun K hK => ?_)
                refine Node.wp_fn 64 [.tmp 66, .tmp 67] _ [.int .u32 s.flash.toNat, .int .i64 k] (by rfl) (by kernel_rfl) enIs.out (is28_c s.flash k false _ k32 X7.out.symm) ?_
                rintro e V' ⟨rfl, rfl⟩
                refine ⟨_, rfl, ?_⟩
                refine hK.out _ _ (hZ.out _ _ _ _ _ P) (fun _ => ?_)
                clear hK K
                try simp only [zA, zS, zZ, Act.put, zP, zQ, zR]
                have hHeld := hZ.out _ _ _ _ _ P
                refine Node.tk 9 ?_ rfl ?_ ?_
                rotate_left
                · intro w hSw; (try dsimp only at hSw); go_simp; try with_reducible rfl
                simp only [zA, zS, zZ, Act.put, zP, zQ, zR]
                refine Node.sk 10 rfl ?_
                refine Node.sk 11 rfl ?_
                refine Node.sk 12 rfl ?_
                refine Node.sk 13 rfl ?_
                refine Node.sk 14 rfl ?_
                simp only [zA, zS, zZ, Act.put, zP, zQ, zR]
                refine Node.tk 15 ?_ rfl ?_ ?_
                rotate_left
                · intro w hSw; (try dsimp only at hSw); go_simp; try with_reducible rfl
                simp only [zA, zS, zZ, Act.put, zP, zQ, zR]
                clear hHeld
                refine Node.on 16 rfl (fun K hK => ?_)
                refine Node.wp_fn 66 [.tmp 64, .tmp 75] _ [.bool x6, .bool false] (by rfl) (by kernel_rfl) enOn.out (one28_c x6 false _) ?_
                rintro e V' ⟨rfl, rfl⟩
                refine ⟨_, rfl, ?_⟩
                refine hK.out _ _ (hZ.out _ _ _ _ _ P) (fun _ => ?_)
                clear hK K
                try simp only [zA, zS, zZ, Act.put, zP, zQ, zR]
                refine Node.on 17 rfl (fun K hK => ?_)
                refine Node.wp_fn 65 [.tmp 60, .tmp 76, .const (.int .i64 2)] _ [Bt.bv v N, .int .i64 (oneN x6 false : Nat), .int .i64 2] (by rfl) (by kernel_rfl) enPu.out (put28_c v B l2 (oneN x6 false) 2 N N1 _ _ _ P.xv.n HN1.out rfl rfl P.xv.sl P.xv.h (by have := HLL2.out; omega) (by omega) (oneN_lt _ _)) ?_
                rintro e V2 ⟨bF, A2, c2, B2, rfl, s2, h2⟩
                refine ⟨_, rfl, ?_⟩
                replace P := P.later bF
                clear bF
                refine hK.out _ _ (hZ.out _ _ _ _ _ P) (fun _ => ?_)
                clear hK K
                try simp only [zA, zS, zZ, Act.put, zP, zQ, zR]
                refine Node.on 21 rfl (fun K hK => ?_)
                refine Node.wp_fn 64 [.tmp 79, .tmp 80] _ [.int .u32 s.autos.toNat, .int .i64 k] (by rfl) (by kernel_rfl) enIs.out (is28_c s.autos k x8 _ k32 X8.out.symm) ?_
                rintro e V' ⟨rfl, rfl⟩
                refine ⟨_, rfl, ?_⟩
                refine hK.out _ _ (hZ.out _ _ _ _ _ P) (fun _ => ?_)
                clear hK K
                try simp only [zA, zS, zZ, Act.put, zP, zQ, zR]
                refine Node.on 22 rfl (fun K hK => ?_)
                refine Node.wp_fn 63 [.tmp 77, .tmp 81] _ [Bt.bv (Value.slice A2 B2.length c2) N1, .bool x8] (by rfl) (by kernel_rfl) enFl.out (flag28_c (Value.slice A2 B2.length c2) B2 (l2 ++ numBits (oneN x6 false) 2) x8 N1 N2 _ (by have h := HN1.out; simp only [List.length_append, List.length_cons, List.length_nil, numBits_length] at h ⊢; omega) HN2.out s2 h2 (by simp only [List.length_append, List.length_cons, List.length_nil, numBits_length]; have := HLL2.out; omega)) ?_
                rintro e V3 ⟨bF, A3, c3, B3, rfl, s3, h3⟩
                refine ⟨_, rfl, ?_⟩
                replace P := P.later bF
                try replace s2 := s2.later bF
                clear bF
                refine hK.out _ _ (hZ.out _ _ _ _ _ P) (fun _ => ?_)
                clear hK K
                try simp only [zA, zS, zZ, Act.put, zP, zQ, zR]
                refine Node.on 23 rfl (fun K hK => ?_)
                obtain ⟨V', hW, P', ths⟩ := P.fill (N' := N2) s3 h3 (by have h := HN2.out; simp only [List.length_append, List.length_cons, List.length_nil, numBits_length] at h ⊢; omega)
                refine wp_store_mid 84 (.tmp 5) (.tmp 82) (by rfl) (w.heap.size + 1 + 1) 0 [(Value.slice A3 B3.length c3), .int .i64 N2].toArray (by rfl) (by rfl) ths bits_size28 (one_bits28 rfl _) ?_
                rw [hW]
                clear hW ths P
                have P := P'
                clear P'
                refine hK.out _ _ (hZ.out _ _ _ _ _ P) (fun _ => ?_)
                clear hK K
                try simp only [zA, zS, zZ, Act.put, zP, zQ, zR]
                refine wpAnyH_done (by kernel_rfl) ?_ _
                go_wp2
                go_roundw
                case rel => exact ⟨k + 1, _, _, _, by omega, by go_num, by rw [sig_p, HLB.out, X5.out, X6.out, X7.out, X8.out, HL2.out]; simpa using P⟩
                case measure => simp [intOf]; omega
              · skip
                refine Node.wp_fn 64 [.tmp 62, .tmp 63] _ [.int .u32 s.steady.toNat, .int .i64 k] (by rfl) (by kernel_rfl) enIs.out (is28_c s.steady k x6 _ k32 X6.out.symm) ?_
                rintro e V' ⟨rfl, rfl⟩
                refine ⟨_, rfl, ?_⟩
                refine hK.out _ _ (hZ.out _ _ _ _ _ P) (fun _ => ?_)
                clear hK K
                try simp only [zA, zS, zZ, Act.put, zP, zQ, zR]
                refine wpAnyH_ready (rs := [0, 8]) (by kernel_rfl) (by simp) ?_
                refine AllReadyH.cons rfl (fun K hK => ?_) (AllReadyH.cons rfl (fun K hK => ?_) AllReadyH.nil)
                · skip
                  refine wp_load_mid 84 (.tmp 5) (by rfl) (w.heap.size + 1 + 1) 0 (by rfl) [v, .int .i64 N] _ (range_of (cs := [v, .int .i64 N]) P.xv.x) Tryz.underlying84 rfl bits_size28 ?_
                  refine hK.out _ _ (hZ.out _ _ _ _ _ P) (fun _ => ?_)
                  clear hK K
                  try simp only [zA, zS, zZ, Act.put, zP, zQ, zR]
                  refine Node.on 8 rfl (fun K hK => ?_)
                  refine Node.wp_fn 64 [.tmp 66, .tmp 67] _ [.int .u32 s.flash.toNat, .int .i64 k] (by rfl) (by kernel_rfl) enIs.out (is28_c s.flash k false _ k32 X7.out.symm) ?_
                  rintro e V' ⟨rfl, rfl⟩
                  refine ⟨_, rfl, ?_⟩
                  refine hK.out _ _ (hZ.out _ _ _ _ _ P) (fun _ => ?_)
                  clear hK K
                  try simp only [zA, zS, zZ, Act.put, zP, zQ, zR]
                  have hHeld := hZ.out _ _ _ _ _ P
                  refine Node.tk 9 ?_ rfl ?_ ?_
                  rotate_left
                  · intro w hSw; (try dsimp only at hSw); go_simp; try with_reducible rfl
                  simp only [zA, zS, zZ, Act.put, zP, zQ, zR]
                  refine Node.sk 10 rfl ?_
                  refine Node.sk 11 rfl ?_
                  refine Node.sk 12 rfl ?_
                  refine Node.sk 13 rfl ?_
                  refine Node.sk 14 rfl ?_
                  simp only [zA, zS, zZ, Act.put, zP, zQ, zR]
                  refine Node.tk 15 ?_ rfl ?_ ?_
                  rotate_left
                  · intro w hSw; (try dsimp only at hSw); go_simp; try with_reducible rfl
                  simp only [zA, zS, zZ, Act.put, zP, zQ, zR]
                  clear hHeld
                  refine Node.on 16 rfl (fun K hK => ?_)
                  refine Node.wp_fn 66 [.tmp 64, .tmp 75] _ [.bool x6, .bool false] (by rfl) (by kernel_rfl) enOn.out (one28_c x6 false _) ?_
                  rintro e V' ⟨rfl, rfl⟩
                  refine ⟨_, rfl, ?_⟩
                  refine hK.out _ _ (hZ.out _ _ _ _ _ P) (fun _ => ?_)
                  clear hK K
                  try simp only [zA, zS, zZ, Act.put, zP, zQ, zR]
                  refine Node.on 17 rfl (fun K hK => ?_)
                  refine Node.wp_fn 65 [.tmp 60, .tmp 76, .const (.int .i64 2)] _ [Bt.bv v N, .int .i64 (oneN x6 false : Nat), .int .i64 2] (by rfl) (by kernel_rfl) enPu.out (put28_c v B l2 (oneN x6 false) 2 N N1 _ _ _ P.xv.n HN1.out rfl rfl P.xv.sl P.xv.h (by have := HLL2.out; omega) (by omega) (oneN_lt _ _)) ?_
                  rintro e V2 ⟨bF, A2, c2, B2, rfl, s2, h2⟩
                  refine ⟨_, rfl, ?_⟩
                  replace P := P.later bF
                  clear bF
                  refine hK.out _ _ (hZ.out _ _ _ _ _ P) (fun _ => ?_)
                  clear hK K
                  try simp only [zA, zS, zZ, Act.put, zP, zQ, zR]
                  refine Node.on 21 rfl (fun K hK => ?_)
                  refine Node.wp_fn 64 [.tmp 79, .tmp 80] _ [.int .u32 s.autos.toNat, .int .i64 k] (by rfl) (by kernel_rfl) enIs.out (is28_c s.autos k x8 _ k32 X8.out.symm) ?_
                  rintro e V' ⟨rfl, rfl⟩
                  refine ⟨_, rfl, ?_⟩
                  refine hK.out _ _ (hZ.out _ _ _ _ _ P) (fun _ => ?_)
                  clear hK K
                  try simp only [zA, zS, zZ, Act.put, zP, zQ, zR]
                  refine Node.on 22 rfl (fun K hK => ?_)
                  refine Node.wp_fn 63 [.tmp 77, .tmp 81] _ [Bt.bv (Value.slice A2 B2.length c2) N1, .bool x8] (by rfl) (by kernel_rfl) enFl.out (flag28_c (Value.slice A2 B2.length c2) B2 (l2 ++ numBits (oneN x6 false) 2) x8 N1 N2 _ (by have h := HN1.out; simp only [List.length_append, List.length_cons, List.length_nil, numBits_length] at h ⊢; omega) HN2.out s2 h2 (by simp only [List.length_append, List.length_cons, List.length_nil, numBits_length]; have := HLL2.out; omega)) ?_
                  rintro e V3 ⟨bF, A3, c3, B3, rfl, s3, h3⟩
                  refine ⟨_, rfl, ?_⟩
                  replace P := P.later bF
                  try replace s2 := s2.later bF
                  clear bF
                  refine hK.out _ _ (hZ.out _ _ _ _ _ P) (fun _ => ?_)
                  clear hK K
                  try simp only [zA, zS, zZ, Act.put, zP, zQ, zR]
                  refine Node.on 23 rfl (fun K hK => ?_)
                  obtain ⟨V', hW, P', ths⟩ := P.fill (N' := N2) s3 h3 (by have h := HN2.out; simp only [List.length_append, List.length_cons, List.length_nil, numBits_length] at h ⊢; omega)
                  refine wp_store_mid 84 (.tmp 5) (.tmp 82) (by rfl) (w.heap.size + 1 + 1) 0 [(Value.slice A3 B3.length c3), .int .i64 N2].toArray (by rfl) (by rfl) ths bits_size28 (one_bits28 rfl _) ?_
                  rw [hW]
                  clear hW ths P
                  have P := P'
                  clear P'
                  refine hK.out _ _ (hZ.out _ _ _ _ _ P) (fun _ => ?_)
                  clear hK K
                  try simp only [zA, zS, zZ, Act.put, zP, zQ, zR]
                  refine wpAnyH_done (by kernel_rfl) ?_ _
                  go_wp2
                  go_roundw
                  case rel => exact ⟨k + 1, _, _, _, by omega, by go_num, by rw [sig_p, HLB.out, X5.out, X6.out, X7.out, X8.out, HL2.out]; simpa using P⟩
                  case measure => simp [intOf]; omega
                · skip
                  refine Node.wp_fn 64 [.tmp 66, .tmp 67] _ [.int .u32 s.flash.toNat, .int .i64 k] (by rfl) (by kernel_rfl) enIs.out (is28_c s.flash k false _ k32 X7.out.symm) ?_
                  rintro e V' ⟨rfl, rfl⟩
                  refine ⟨_, rfl, ?_⟩
                  refine hK.out _ _ (hZ.out _ _ _ _ _ P) (fun _ => ?_)
                  clear hK K
                  try simp only [zA, zS, zZ, Act.put, zP, zQ, zR]
                  have hHeld := hZ.out _ _ _ _ _ P
                  refine Node.tk 9 ?_ rfl ?_ ?_
                  rotate_left
                  · intro w hSw; (try dsimp only at hSw); go_simp; try with_reducible rfl
                  simp only [zA, zS, zZ, Act.put, zP, zQ, zR]
                  refine Node.sk 10 rfl ?_
                  refine Node.sk 11 rfl ?_
                  refine Node.sk 12 rfl ?_
                  refine Node.sk 13 rfl ?_
                  refine Node.sk 14 rfl ?_
                  simp only [zA, zS, zZ, Act.put, zP, zQ, zR]
                  refine Node.tk 15 ?_ rfl ?_ ?_
                  rotate_left
                  · intro w hSw; (try dsimp only at hSw); go_simp; try with_reducible rfl
                  simp only [zA, zS, zZ, Act.put, zP, zQ, zR]
                  clear hHeld
                  refine wpAnyH_ready (rs := [0, 16]) (by kernel_rfl) (by simp) ?_
                  refine AllReadyH.cons rfl (fun K hK => ?_) (AllReadyH.cons rfl (fun K hK => ?_) AllReadyH.nil)
                  · skip
                    refine wp_load_mid 84 (.tmp 5) (by rfl) (w.heap.size + 1 + 1) 0 (by rfl) [v, .int .i64 N] _ (range_of (cs := [v, .int .i64 N]) P.xv.x) Tryz.underlying84 rfl bits_size28 ?_
                    refine hK.out _ _ (hZ.out _ _ _ _ _ P) (fun _ => ?_)
                    clear hK K
                    try simp only [zA, zS, zZ, Act.put, zP, zQ, zR]
                    refine Node.on 16 rfl (fun K hK => ?_)
                    refine Node.wp_fn 66 [.tmp 64, .tmp 75] _ [.bool x6, .bool false] (by rfl) (by kernel_rfl) enOn.out (one28_c x6 false _) ?_
                    rintro e V' ⟨rfl, rfl⟩
                    refine ⟨_, rfl, ?_⟩
                    refine hK.out _ _ (hZ.out _ _ _ _ _ P) (fun _ => ?_)
                    clear hK K
                    try simp only [zA, zS, zZ, Act.put, zP, zQ, zR]
                    refine Node.on 17 rfl (fun K hK => ?_)
                    refine Node.wp_fn 65 [.tmp 60, .tmp 76, .const (.int .i64 2)] _ [Bt.bv v N, .int .i64 (oneN x6 false : Nat), .int .i64 2] (by rfl) (by kernel_rfl) enPu.out (put28_c v B l2 (oneN x6 false) 2 N N1 _ _ _ P.xv.n HN1.out rfl rfl P.xv.sl P.xv.h (by have := HLL2.out; omega) (by omega) (oneN_lt _ _)) ?_
                    rintro e V2 ⟨bF, A2, c2, B2, rfl, s2, h2⟩
                    refine ⟨_, rfl, ?_⟩
                    replace P := P.later bF
                    clear bF
                    refine hK.out _ _ (hZ.out _ _ _ _ _ P) (fun _ => ?_)
                    clear hK K
                    try simp only [zA, zS, zZ, Act.put, zP, zQ, zR]
                    refine Node.on 21 rfl (fun K hK => ?_)
                    refine Node.wp_fn 64 [.tmp 79, .tmp 80] _ [.int .u32 s.autos.toNat, .int .i64 k] (by rfl) (by kernel_rfl) enIs.out (is28_c s.autos k x8 _ k32 X8.out.symm) ?_
                    rintro e V' ⟨rfl, rfl⟩
                    refine ⟨_, rfl, ?_⟩
                    refine hK.out _ _ (hZ.out _ _ _ _ _ P) (fun _ => ?_)
                    clear hK K
                    try simp only [zA, zS, zZ, Act.put, zP, zQ, zR]
                    refine Node.on 22 rfl (fun K hK => ?_)
                    refine Node.wp_fn 63 [.tmp 77, .tmp 81] _ [Bt.bv (Value.slice A2 B2.length c2) N1, .bool x8] (by rfl) (by kernel_rfl) enFl.out (flag28_c (Value.slice A2 B2.length c2) B2 (l2 ++ numBits (oneN x6 false) 2) x8 N1 N2 _ (by have h := HN1.out; simp only [List.length_append, List.length_cons, List.length_nil, numBits_length] at h ⊢; omega) HN2.out s2 h2 (by simp only [List.length_append, List.length_cons, List.length_nil, numBits_length]; have := HLL2.out; omega)) ?_
                    rintro e V3 ⟨bF, A3, c3, B3, rfl, s3, h3⟩
                    refine ⟨_, rfl, ?_⟩
                    replace P := P.later bF
                    try replace s2 := s2.later bF
                    clear bF
                    refine hK.out _ _ (hZ.out _ _ _ _ _ P) (fun _ => ?_)
                    clear hK K
                    try simp only [zA, zS, zZ, Act.put, zP, zQ, zR]
                    refine Node.on 23 rfl (fun K hK => ?_)
                    obtain ⟨V', hW, P', ths⟩ := P.fill (N' := N2) s3 h3 (by have h := HN2.out; simp only [List.length_append, List.length_cons, List.length_nil, numBits_length] at h ⊢; omega)
                    refine wp_store_mid 84 (.tmp 5) (.tmp 82) (by rfl) (w.heap.size + 1 + 1) 0 [(Value.slice A3 B3.length c3), .int .i64 N2].toArray (by rfl) (by rfl) ths bits_size28 (one_bits28 rfl _) ?_
                    rw [hW]
                    clear hW ths P
                    have P := P'
                    clear P'
                    refine hK.out _ _ (hZ.out _ _ _ _ _ P) (fun _ => ?_)
                    clear hK K
                    try simp only [zA, zS, zZ, Act.put, zP, zQ, zR]
                    refine wpAnyH_done (by kernel_rfl) ?_ _
                    go_wp2
                    go_roundw
                    case rel => exact ⟨k + 1, _, _, _, by omega, by go_num, by rw [sig_p, HLB.out, X5.out, X6.out, X7.out, X8.out, HL2.out]; simpa using P⟩
                    case measure => simp [intOf]; omega
                  · skip
                    refine Node.wp_fn 66 [.tmp 64, .tmp 75] _ [.bool x6, .bool false] (by rfl) (by kernel_rfl) enOn.out (one28_c x6 false _) ?_
                    rintro e V' ⟨rfl, rfl⟩
                    refine ⟨_, rfl, ?_⟩
                    refine hK.out _ _ (hZ.out _ _ _ _ _ P) (fun _ => ?_)
                    clear hK K
                    try simp only [zA, zS, zZ, Act.put, zP, zQ, zR]
                    refine Node.on 0 rfl (fun K hK => ?_)
                    refine wp_load_mid 84 (.tmp 5) (by rfl) (w.heap.size + 1 + 1) 0 (by rfl) [v, .int .i64 N] _ (range_of (cs := [v, .int .i64 N]) P.xv.x) Tryz.underlying84 rfl bits_size28 ?_
                    refine hK.out _ _ (hZ.out _ _ _ _ _ P) (fun _ => ?_)
                    clear hK K
                    try simp only [zA, zS, zZ, Act.put, zP, zQ, zR]
                    refine Node.on 17 rfl (fun K hK => ?_)
                    refine Node.wp_fn 65 [.tmp 60, .tmp 76, .const (.int .i64 2)] _ [Bt.bv v N, .int .i64 (oneN x6 false : Nat), .int .i64 2] (by rfl) (by kernel_rfl) enPu.out (put28_c v B l2 (oneN x6 false) 2 N N1 _ _ _ P.xv.n HN1.out rfl rfl P.xv.sl P.xv.h (by have := HLL2.out; omega) (by omega) (oneN_lt _ _)) ?_
                    rintro e V2 ⟨bF, A2, c2, B2, rfl, s2, h2⟩
                    refine ⟨_, rfl, ?_⟩
                    replace P := P.later bF
                    clear bF
                    refine hK.out _ _ (hZ.out _ _ _ _ _ P) (fun _ => ?_)
                    clear hK K
                    try simp only [zA, zS, zZ, Act.put, zP, zQ, zR]
                    refine Node.on 21 rfl (fun K hK => ?_)
                    refine Node.wp_fn 64 [.tmp 79, .tmp 80] _ [.int .u32 s.autos.toNat, .int .i64 k] (by rfl) (by kernel_rfl) enIs.out (is28_c s.autos k x8 _ k32 X8.out.symm) ?_
                    rintro e V' ⟨rfl, rfl⟩
                    refine ⟨_, rfl, ?_⟩
                    refine hK.out _ _ (hZ.out _ _ _ _ _ P) (fun _ => ?_)
                    clear hK K
                    try simp only [zA, zS, zZ, Act.put, zP, zQ, zR]
                    refine Node.on 22 rfl (fun K hK => ?_)
                    refine Node.wp_fn 63 [.tmp 77, .tmp 81] _ [Bt.bv (Value.slice A2 B2.length c2) N1, .bool x8] (by rfl) (by kernel_rfl) enFl.out (flag28_c (Value.slice A2 B2.length c2) B2 (l2 ++ numBits (oneN x6 false) 2) x8 N1 N2 _ (by have h := HN1.out; simp only [List.length_append, List.length_cons, List.length_nil, numBits_length] at h ⊢; omega) HN2.out s2 h2 (by simp only [List.length_append, List.length_cons, List.length_nil, numBits_length]; have := HLL2.out; omega)) ?_
                    rintro e V3 ⟨bF, A3, c3, B3, rfl, s3, h3⟩
                    refine ⟨_, rfl, ?_⟩
                    replace P := P.later bF
                    try replace s2 := s2.later bF
                    clear bF
                    refine hK.out _ _ (hZ.out _ _ _ _ _ P) (fun _ => ?_)
                    clear hK K
                    try simp only [zA, zS, zZ, Act.put, zP, zQ, zR]
                    refine Node.on 23 rfl (fun K hK => ?_)
                    obtain ⟨V', hW, P', ths⟩ := P.fill (N' := N2) s3 h3 (by have h := HN2.out; simp only [List.length_append, List.length_cons, List.length_nil, numBits_length] at h ⊢; omega)
                    refine wp_store_mid 84 (.tmp 5) (.tmp 82) (by rfl) (w.heap.size + 1 + 1) 0 [(Value.slice A3 B3.length c3), .int .i64 N2].toArray (by rfl) (by rfl) ths bits_size28 (one_bits28 rfl _) ?_
                    rw [hW]
                    clear hW ths P
                    have P := P'
                    clear P'
                    refine hK.out _ _ (hZ.out _ _ _ _ _ P) (fun _ => ?_)
                    clear hK K
                    try simp only [zA, zS, zZ, Act.put, zP, zQ, zR]
                    refine wpAnyH_done (by kernel_rfl) ?_ _
                    go_wp2
                    go_roundw
                    case rel => exact ⟨k + 1, _, _, _, by omega, by go_num, by rw [sig_p, HLB.out, X5.out, X6.out, X7.out, X8.out, HL2.out]; simpa using P⟩
                    case measure => simp [intOf]; omega
            · skip
              obtain ⟨N1, hN1⟩ : ∃ N : Int, N = ((l2.length + 2 : Nat) : Int) := ⟨_, rfl⟩
              have HN1 := Lib.hid hN1
              clear hN1
              obtain ⟨N2, hN2⟩ : ∃ N : Int, N = (((l2 ++ numBits (oneN x6 (!x6)) 2).length + 1 : Nat) : Int) := ⟨_, rfl⟩
              have HN2 := Lib.hid hN2
              clear hN2
              refine wp_region_held_drew (S := (fun w' => w'.cell? ⟨w.heap.size + 1, 6, none⟩ = some (.int .u32 s.steady.toNat) ∧ w'.cell? ⟨w.heap.size + 1, 7, none⟩ = some (.int .u32 s.flash.toNat) ∧ w'.cell? ⟨w.heap.size + 1, 8, none⟩ = some (.int .u32 s.autos.toNat))) (by kernel_rfl) ?_ (fun hHeld => ?_)
              · exact hZ.out _ _ _ _ _ (P.later (Below.refl _ _).drew)
              replace P := P.later (Below.refl _ _).drew
              refine Node.tk 1 ?_ rfl ?_ ?_
              rotate_left
              · intro w hSw; (try dsimp only at hSw); go_simp; try with_reducible rfl
              simp only [zA, zS, zZ, Act.put, zP, zQ, zR]
              refine Node.tk 2 ?_ rfl ?_ ?_
              rotate_left
              · intro w hSw; (try dsimp only at hSw); go_simp; try with_reducible rfl
              simp only [zA, zS, zZ, Act.put, zP, zQ, zR]
              refine Node.tk 3 ?_ rfl ?_ ?_
              rotate_left
              · intro w hSw; (try dsimp only at hSw); go_simp; try with_reducible rfl
              simp only [zA, zS, zZ, Act.put, zP, zQ, zR]
              refine Node.tk 5 ?_ rfl ?_ ?_
              rotate_left
              · intro w hSw; (try dsimp only at hSw); go_simp; try with_reducible rfl
              simp only [zA, zS, zZ, Act.put, zP, zQ, zR]
              refine Node.tk 6 ?_ rfl ?_ ?_
              rotate_left
              · intro w hSw; (try dsimp only at hSw); go_simp; try with_reducible rfl
              simp only [zA, zS, zZ, Act.put, zP, zQ, zR]
              refine Node.tk 7 ?_ rfl ?_ ?_
              rotate_left
              · intro w hSw; (try dsimp only at hSw); go_simp; try with_reducible rfl
              simp only [zA, zS, zZ, Act.put, zP, zQ, zR]
              refine Node.tk 18 ?_ rfl ?_ ?_
              rotate_left
              · intro w hSw; (try dsimp only at hSw); go_simp; try with_reducible rfl
              simp only [zA, zS, zZ, Act.put, zP, zQ, zR]
              refine Node.tk 19 ?_ rfl ?_ ?_
              rotate_left
              · intro w hSw; (try dsimp only at hSw); go_simp; try with_reducible rfl
              simp only [zA, zS, zZ, Act.put, zP, zQ, zR]
              refine Node.tk 20 ?_ rfl ?_ ?_
              rotate_left
              · intro w hSw; (try dsimp only at hSw); go_simp; try with_reducible rfl
              simp only [zA, zS, zZ, Act.put, zP, zQ, zR]
              clear hHeld
              refine wpAnyH_ready (rs := [0, 4]) (by kernel_rfl) (by simp) ?_
              refine AllReadyH.cons rfl (fun K hK => ?_) (AllReadyH.cons rfl (fun K hK => ?_) AllReadyH.nil)
              · skip
                refine wp_load_mid 84 (.tmp 5) (by rfl) (w.heap.size + 1 + 1) 0 (by rfl) [v, .int .i64 N] _ (range_of (cs := [v, .int .i64 N]) P.xv.x) Tryz.underlying84 rfl bits_size28 ?_
                refine hK.out _ _ (hZ.out _ _ _ _ _ P) (fun _ => ?_)
                clear hK K
                try simp only [zA, zS, zZ, Act.put, zP, zQ, zR]
                refine Node.on 4 rfl (fun K hK => ?_)
                refine Node.wp_fn 64 [.tmp 62, .tmp 63] _ [.int .u32 s.steady.toNat, .int .i64 k] (by rfl) (by kernel_rfl) enIs.out (is28_c s.steady k x6 _ k32 X6.out.symm) ?_
                rintro e V' ⟨rfl, rfl⟩
                refine ⟨_, rfl, ?_⟩
                refine hK.out _ _ (hZ.out _ _ _ _ _ P) (fun _ => ?_)
                clear hK K
                try simp only [zA, zS, zZ, Act.put, zP, zQ, zR]
                refine Node.on 8 rfl (fun K hK => ?_)
                refine Node.wp_fn 64 [.tmp 66, .tmp 67] _ [.int .u32 s.flash.toNat, .int .i64 k] (by rfl) (by kernel_rfl) enIs.out (is28_c s.flash k true _ k32 X7.out.symm) ?_
                rintro e V' ⟨rfl, rfl⟩
                refine ⟨_, rfl, ?_⟩
                refine hK.out _ _ (hZ.out _ _ _ _ _ P) (fun _ => ?_)
                clear hK K
                try simp only [zA, zS, zZ, Act.put, zP, zQ, zR]
                have hHeld := hZ.out _ _ _ _ _ P
                refine Node.tk 9 ?_ rfl ?_ ?_
                rotate_left
                · intro w hSw; (try dsimp only at hSw); go_simp; try with_reducible rfl
                simp only [zA, zS, zZ, Act.put, zP, zQ, zR]
                refine Node.tk 10 ?_ rfl ?_ ?_
                rotate_left
                · intro w hSw; (try dsimp only at hSw); go_simp; try with_reducible rfl
                simp only [zA, zS, zZ, Act.put, zP, zQ, zR]
                refine Node.tk 11 ?_ rfl ?_ ?_
                rotate_left
                · intro w hSw; (try dsimp only at hSw); go_simp; try with_reducible rfl
                simp only [zA, zS, zZ, Act.put, zP, zQ, zR]
                refine Node.tk 12 ?_ rfl ?_ ?_
                rotate_left
                · intro w hSw; (try dsimp only at hSw); go_simp; try with_reducible rfl
                simp only [zA, zS, zZ, Act.put, zP, zQ, zR]
                clear hHeld
                refine Node.on 13 rfl (fun K hK => ?_)
                refine Node.wp_fn 64 [.tmp 71, .tmp 72] _ [.int .u32 s.steady.toNat, .int .i64 k] (by rfl) (by kernel_rfl) enIs.out (is28_c s.steady k x6 _ k32 X6.out.symm) ?_
                rintro e V' ⟨rfl, rfl⟩
                refine ⟨_, rfl, ?_⟩
                refine hK.out _ _ (hZ.out _ _ _ _ _ P) (fun _ => ?_)
                clear hK K
                try simp only [zA, zS, zZ, Act.put, zP, zQ, zR]
                have hHeld := hZ.out _ _ _ _ _ P
                refine Node.tk 14 ?_ rfl ?_ ?_
                rotate_left
                · intro w hSw; (try dsimp only at hSw); go_simp; try with_reducible rfl
                simp only [zA, zS, zZ, Act.put, zP, zQ, zR]
                refine Node.tk 15 ?_ rfl ?_ ?_
                rotate_left
                · intro w hSw; (try dsimp only at hSw); go_simp; try with_reducible rfl
                simp only [zA, zS, zZ, Act.put, zP, zQ, zR]
                clear hHeld
                refine Node.on 16 rfl (fun K hK => ?_)
                refine Node.wp_fn 66 [.tmp 64, .tmp 75] _ [.bool x6, .bool (!x6)] (by rfl) (by kernel_rfl) enOn.out (one28_c x6 (!x6) _) ?_
                rintro e V' ⟨rfl, rfl⟩
                refine ⟨_, rfl, ?_⟩
                refine hK.out _ _ (hZ.out _ _ _ _ _ P) (fun _ => ?_)
                clear hK K
                try simp only [zA, zS, zZ, Act.put, zP, zQ, zR]
                refine Node.on 17 rfl (fun K hK => ?_)
                refine Node.wp_fn 65 [.tmp 60, .tmp 76, .const (.int .i64 2)] _ [Bt.bv v N, .int .i64 (oneN x6 (!x6) : Nat), .int .i64 2] (by rfl) (by kernel_rfl) enPu.out (put28_c v B l2 (oneN x6 (!x6)) 2 N N1 _ _ _ P.xv.n HN1.out rfl rfl P.xv.sl P.xv.h (by have := HLL2.out; omega) (by omega) (oneN_lt _ _)) ?_
                rintro e V2 ⟨bF, A2, c2, B2, rfl, s2, h2⟩
                refine ⟨_, rfl, ?_⟩
                replace P := P.later bF
                clear bF
                refine hK.out _ _ (hZ.out _ _ _ _ _ P) (fun _ => ?_)
                clear hK K
                try simp only [zA, zS, zZ, Act.put, zP, zQ, zR]
                refine Node.on 21 rfl (fun K hK => ?_)
                refine Node.wp_fn 64 [.tmp 79, .tmp 80] _ [.int .u32 s.autos.toNat, .int .i64 k] (by rfl) (by kernel_rfl) enIs.out (is28_c s.autos k x8 _ k32 X8.out.symm) ?_
                rintro e V' ⟨rfl, rfl⟩
                refine ⟨_, rfl, ?_⟩
                refine hK.out _ _ (hZ.out _ _ _ _ _ P) (fun _ => ?_)
                clear hK K
                try simp only [zA, zS, zZ, Act.put, zP, zQ, zR]
                refine Node.on 22 rfl (fun K hK => ?_)
                refine Node.wp_fn 63 [.tmp 77, .tmp 81] _ [Bt.bv (Value.slice A2 B2.length c2) N1, .bool x8] (by rfl) (by kernel_rfl) enFl.out (flag28_c (Value.slice A2 B2.length c2) B2 (l2 ++ numBits (oneN x6 (!x6)) 2) x8 N1 N2 _ (by have h := HN1.out; simp only [List.length_append, List.length_cons, List.length_nil, numBits_length] at h ⊢; omega) HN2.out s2 h2 (by simp only [List.length_append, List.length_cons, List.length_nil, numBits_length]; have := HLL2.out; omega)) ?_
                rintro e V3 ⟨bF, A3, c3, B3, rfl, s3, h3⟩
                refine ⟨_, rfl, ?_⟩
                replace P := P.later bF
                try replace s2 := s2.later bF
                clear bF
                refine hK.out _ _ (hZ.out _ _ _ _ _ P) (fun _ => ?_)
                clear hK K
                try simp only [zA, zS, zZ, Act.put, zP, zQ, zR]
                refine Node.on 23 rfl (fun K hK => ?_)
                obtain ⟨V', hW, P', ths⟩ := P.fill (N' := N2) s3 h3 (by have h := HN2.out; simp only [List.length_append, List.length_cons, List.length_nil, numBits_length] at h ⊢; omega)
                refine wp_store_mid 84 (.tmp 5) (.tmp 82) (by rfl) (w.heap.size + 1 + 1) 0 [(Value.slice A3 B3.length c3), .int .i64 N2].toArray (by rfl) (by rfl) ths bits_size28 (one_bits28 rfl _) ?_
                rw [hW]
                clear hW ths P
                have P := P'
                clear P'
                refine hK.out _ _ (hZ.out _ _ _ _ _ P) (fun _ => ?_)
                clear hK K
                try simp only [zA, zS, zZ, Act.put, zP, zQ, zR]
                refine wpAnyH_done (by kernel_rfl) ?_ _
                go_wp2
                go_roundw
                case rel => exact ⟨k + 1, _, _, _, by omega, by go_num, by rw [sig_p, HLB.out, X5.out, X6.out, X7.out, X8.out, HL2.out]; simpa using P⟩
                case measure => simp [intOf]; omega
              · skip
                refine Node.wp_fn 64 [.tmp 62, .tmp 63] _ [.int .u32 s.steady.toNat, .int .i64 k] (by rfl) (by kernel_rfl) enIs.out (is28_c s.steady k x6 _ k32 X6.out.symm) ?_
                rintro e V' ⟨rfl, rfl⟩
                refine ⟨_, rfl, ?_⟩
                refine hK.out _ _ (hZ.out _ _ _ _ _ P) (fun _ => ?_)
                clear hK K
                try simp only [zA, zS, zZ, Act.put, zP, zQ, zR]
                refine wpAnyH_ready (rs := [0, 8]) (by kernel_rfl) (by simp) ?_
                refine AllReadyH.cons rfl (fun K hK => ?_) (AllReadyH.cons rfl (fun K hK => ?_) AllReadyH.nil)
                · skip
                  refine wp_load_mid 84 (.tmp 5) (by rfl) (w.heap.size + 1 + 1) 0 (by rfl) [v, .int .i64 N] _ (range_of (cs := [v, .int .i64 N]) P.xv.x) Tryz.underlying84 rfl bits_size28 ?_
                  refine hK.out _ _ (hZ.out _ _ _ _ _ P) (fun _ => ?_)
                  clear hK K
                  try simp only [zA, zS, zZ, Act.put, zP, zQ, zR]
                  refine Node.on 8 rfl (fun K hK => ?_)
                  refine Node.wp_fn 64 [.tmp 66, .tmp 67] _ [.int .u32 s.flash.toNat, .int .i64 k] (by rfl) (by kernel_rfl) enIs.out (is28_c s.flash k true _ k32 X7.out.symm) ?_
                  rintro e V' ⟨rfl, rfl⟩
                  refine ⟨_, rfl, ?_⟩
                  refine hK.out _ _ (hZ.out _ _ _ _ _ P) (fun _ => ?_)
                  clear hK K
                  try simp only [zA, zS, zZ, Act.put, zP, zQ, zR]
                  have hHeld := hZ.out _ _ _ _ _ P
                  refine Node.tk 9 ?_ rfl ?_ ?_
                  rotate_left
                  · intro w hSw; (try dsimp only at hSw); go_simp; try with_reducible rfl
                  simp only [zA, zS, zZ, Act.put, zP, zQ, zR]
                  refine Node.tk 10 ?_ rfl ?_ ?_
                  rotate_left
                  · intro w hSw; (try dsimp only at hSw); go_simp; try with_reducible rfl
                  simp only [zA, zS, zZ, Act.put, zP, zQ, zR]
                  refine Node.tk 11 ?_ rfl ?_ ?_
                  rotate_left
                  · intro w hSw; (try dsimp only at hSw); go_simp; try with_reducible rfl
                  simp only [zA, zS, zZ, Act.put, zP, zQ, zR]
                  refine Node.tk 12 ?_ rfl ?_ ?_
                  rotate_left
                  · intro w hSw; (try dsimp only at hSw); go_simp; try with_reducible rfl
                  simp only [zA, zS, zZ, Act.put, zP, zQ, zR]
                  clear hHeld
                  refine Node.on 13 rfl (fun K hK => ?_)
                  refine Node.wp_fn 64 [.tmp 71, .tmp 72] _ [.int .u32 s.steady.toNat, .int .i64 k] (by rfl) (by kernel_rfl) enIs.out (is28_c s.steady k x6 _ k32 X6.out.symm) ?_
                  rintro e V' ⟨rfl, rfl⟩
                  refine ⟨_, rfl, ?_⟩
                  refine hK.out _ _ (hZ.out _ _ _ _ _ P) (fun _ => ?_)
                  clear hK K
                  try simp only [zA, zS, zZ, Act.put, zP, zQ, zR]
                  have hHeld := hZ.out _ _ _ _ _ P
                  refine Node.tk 14 ?_ rfl ?_ ?_
                  rotate_left
                  · intro w hSw; (try dsimp only at hSw); go_simp; try with_reducible rfl
                  simp only [zA, zS, zZ, Act.put, zP, zQ, zR]
                  refine Node.tk 15 ?_ rfl ?_ ?_
                  rotate_left
                  · intro w hSw; (try dsimp only at hSw); go_simp; try with_reducible rfl
                  simp only [zA, zS, zZ, Act.put, zP, zQ, zR]
                  clear hHeld
                  refine Node.on 16 rfl (fun K hK => ?_)
                  refine Node.wp_fn 66 [.tmp 64, .tmp 75] _ [.bool x6, .bool (!x6)] (by rfl) (by kernel_rfl) enOn.out (one28_c x6 (!x6) _) ?_
                  rintro e V' ⟨rfl, rfl⟩
                  refine ⟨_, rfl, ?_⟩
                  refine hK.out _ _ (hZ.out _ _ _ _ _ P) (fun _ => ?_)
                  clear hK K
                  try simp only [zA, zS, zZ, Act.put, zP, zQ, zR]
                  refine Node.on 17 rfl (fun K hK => ?_)
                  refine Node.wp_fn 65 [.tmp 60, .tmp 76, .const (.int .i64 2)] _ [Bt.bv v N, .int .i64 (oneN x6 (!x6) : Nat), .int .i64 2] (by rfl) (by kernel_rfl) enPu.out (put28_c v B l2 (oneN x6 (!x6)) 2 N N1 _ _ _ P.xv.n HN1.out rfl rfl P.xv.sl P.xv.h (by have := HLL2.out; omega) (by omega) (oneN_lt _ _)) ?_
                  rintro e V2 ⟨bF, A2, c2, B2, rfl, s2, h2⟩
                  refine ⟨_, rfl, ?_⟩
                  replace P := P.later bF
                  clear bF
                  refine hK.out _ _ (hZ.out _ _ _ _ _ P) (fun _ => ?_)
                  clear hK K
                  try simp only [zA, zS, zZ, Act.put, zP, zQ, zR]
                  refine Node.on 21 rfl (fun K hK => ?_)
                  refine Node.wp_fn 64 [.tmp 79, .tmp 80] _ [.int .u32 s.autos.toNat, .int .i64 k] (by rfl) (by kernel_rfl) enIs.out (is28_c s.autos k x8 _ k32 X8.out.symm) ?_
                  rintro e V' ⟨rfl, rfl⟩
                  refine ⟨_, rfl, ?_⟩
                  refine hK.out _ _ (hZ.out _ _ _ _ _ P) (fun _ => ?_)
                  clear hK K
                  try simp only [zA, zS, zZ, Act.put, zP, zQ, zR]
                  refine Node.on 22 rfl (fun K hK => ?_)
                  refine Node.wp_fn 63 [.tmp 77, .tmp 81] _ [Bt.bv (Value.slice A2 B2.length c2) N1, .bool x8] (by rfl) (by kernel_rfl) enFl.out (flag28_c (Value.slice A2 B2.length c2) B2 (l2 ++ numBits (oneN x6 (!x6)) 2) x8 N1 N2 _ (by have h := HN1.out; simp only [List.length_append, List.length_cons, List.length_nil, numBits_length] at h ⊢; omega) HN2.out s2 h2 (by simp only [List.length_append, List.length_cons, List.length_nil, numBits_length]; have := HLL2.out; omega)) ?_
                  rintro e V3 ⟨bF, A3, c3, B3, rfl, s3, h3⟩
                  refine ⟨_, rfl, ?_⟩
                  replace P := P.later bF
                  try replace s2 := s2.later bF
                  clear bF
                  refine hK.out _ _ (hZ.out _ _ _ _ _ P) (fun _ => ?_)
                  clear hK K
                  try simp only [zA, zS, zZ, Act.put, zP, zQ, zR]
                  refine Node.on 23 rfl (fun K hK => ?_)
                  obtain ⟨V', hW, P', ths⟩ := P.fill (N' := N2) s3 h3 (by have h := HN2.out; simp only [List.length_append, List.length_cons, List.length_nil, numBits_length] at h ⊢; omega)
                  refine wp_store_mid 84 (.tmp 5) (.tmp 82) (by rfl) (w.heap.size + 1 + 1) 0 [(Value.slice A3 B3.length c3), .int .i64 N2].toArray (by rfl) (by rfl) ths bits_size28 (one_bits28 rfl _) ?_
                  rw [hW]
                  clear hW ths P
                  have P := P'
                  clear P'
                  refine hK.out _ _ (hZ.out _ _ _ _ _ P) (fun _ => ?_)
                  clear hK K
                  try simp only [zA, zS, zZ, Act.put, zP, zQ, zR]
                  refine wpAnyH_done (by kernel_rfl) ?_ _
                  go_wp2
                  go_roundw
                  case rel => exact ⟨k + 1, _, _, _, by omega, by go_num, by rw [sig_p, HLB.out, X5.out, X6.out, X7.out, X8.out, HL2.out]; simpa using P⟩
                  case measure => simp [intOf]; omega
                · skip
                  refine Node.wp_fn 64 [.tmp 66, .tmp 67] _ [.int .u32 s.flash.toNat, .int .i64 k] (by rfl) (by kernel_rfl) enIs.out (is28_c s.flash k true _ k32 X7.out.symm) ?_
                  rintro e V' ⟨rfl, rfl⟩
                  refine ⟨_, rfl, ?_⟩
                  refine hK.out _ _ (hZ.out _ _ _ _ _ P) (fun _ => ?_)
                  clear hK K
                  try simp only [zA, zS, zZ, Act.put, zP, zQ, zR]
                  have hHeld := hZ.out _ _ _ _ _ P
                  refine Node.tk 9 ?_ rfl ?_ ?_
                  rotate_left
                  · intro w hSw; (try dsimp only at hSw); go_simp; try with_reducible rfl
                  simp only [zA, zS, zZ, Act.put, zP, zQ, zR]
                  refine Node.tk 10 ?_ rfl ?_ ?_
                  rotate_left
                  · intro w hSw; (try dsimp only at hSw); go_simp; try with_reducible rfl
                  simp only [zA, zS, zZ, Act.put, zP, zQ, zR]
                  refine Node.tk 11 ?_ rfl ?_ ?_
                  rotate_left
                  · intro w hSw; (try dsimp only at hSw); go_simp; try with_reducible rfl
                  simp only [zA, zS, zZ, Act.put, zP, zQ, zR]
                  refine Node.tk 12 ?_ rfl ?_ ?_
                  rotate_left
                  · intro w hSw; (try dsimp only at hSw); go_simp; try with_reducible rfl
                  simp only [zA, zS, zZ, Act.put, zP, zQ, zR]
                  clear hHeld
                  refine wpAnyH_ready (rs := [0, 13]) (by kernel_rfl) (by simp) ?_
                  refine AllReadyH.cons rfl (fun K hK => ?_) (AllReadyH.cons rfl (fun K hK => ?_) AllReadyH.nil)
                  · skip
                    refine wp_load_mid 84 (.tmp 5) (by rfl) (w.heap.size + 1 + 1) 0 (by rfl) [v, .int .i64 N] _ (range_of (cs := [v, .int .i64 N]) P.xv.x) Tryz.underlying84 rfl bits_size28 ?_
                    refine hK.out _ _ (hZ.out _ _ _ _ _ P) (fun _ => ?_)
                    clear hK K
                    try simp only [zA, zS, zZ, Act.put, zP, zQ, zR]
                    refine Node.on 13 rfl (fun K hK => ?_)
                    refine Node.wp_fn 64 [.tmp 71, .tmp 72] _ [.int .u32 s.steady.toNat, .int .i64 k] (by rfl) (by kernel_rfl) enIs.out (is28_c s.steady k x6 _ k32 X6.out.symm) ?_
                    rintro e V' ⟨rfl, rfl⟩
                    refine ⟨_, rfl, ?_⟩
                    refine hK.out _ _ (hZ.out _ _ _ _ _ P) (fun _ => ?_)
                    clear hK K
                    try simp only [zA, zS, zZ, Act.put, zP, zQ, zR]
                    have hHeld := hZ.out _ _ _ _ _ P
                    refine Node.tk 14 ?_ rfl ?_ ?_
                    rotate_left
                    · intro w hSw; (try dsimp only at hSw); go_simp; try with_reducible rfl
                    simp only [zA, zS, zZ, Act.put, zP, zQ, zR]
                    refine Node.tk 15 ?_ rfl ?_ ?_
                    rotate_left
                    · intro w hSw; (try dsimp only at hSw); go_simp; try with_reducible rfl
                    simp only [zA, zS, zZ, Act.put, zP, zQ, zR]
                    clear hHeld
                    refine Node.on 16 rfl (fun K hK => ?_)
                    refine Node.wp_fn 66 [.tmp 64, .tmp 75] _ [.bool x6, .bool (!x6)] (by rfl) (by kernel_rfl) enOn.out (one28_c x6 (!x6) _) ?_
                    rintro e V' ⟨rfl, rfl⟩
                    refine ⟨_, rfl, ?_⟩
                    refine hK.out _ _ (hZ.out _ _ _ _ _ P) (fun _ => ?_)
                    clear hK K
                    try simp only [zA, zS, zZ, Act.put, zP, zQ, zR]
                    refine Node.on 17 rfl (fun K hK => ?_)
                    refine Node.wp_fn 65 [.tmp 60, .tmp 76, .const (.int .i64 2)] _ [Bt.bv v N, .int .i64 (oneN x6 (!x6) : Nat), .int .i64 2] (by rfl) (by kernel_rfl) enPu.out (put28_c v B l2 (oneN x6 (!x6)) 2 N N1 _ _ _ P.xv.n HN1.out rfl rfl P.xv.sl P.xv.h (by have := HLL2.out; omega) (by omega) (oneN_lt _ _)) ?_
                    rintro e V2 ⟨bF, A2, c2, B2, rfl, s2, h2⟩
                    refine ⟨_, rfl, ?_⟩
                    replace P := P.later bF
                    clear bF
                    refine hK.out _ _ (hZ.out _ _ _ _ _ P) (fun _ => ?_)
                    clear hK K
                    try simp only [zA, zS, zZ, Act.put, zP, zQ, zR]
                    refine Node.on 21 rfl (fun K hK => ?_)
                    refine Node.wp_fn 64 [.tmp 79, .tmp 80] _ [.int .u32 s.autos.toNat, .int .i64 k] (by rfl) (by kernel_rfl) enIs.out (is28_c s.autos k x8 _ k32 X8.out.symm) ?_
                    rintro e V' ⟨rfl, rfl⟩
                    refine ⟨_, rfl, ?_⟩
                    refine hK.out _ _ (hZ.out _ _ _ _ _ P) (fun _ => ?_)
                    clear hK K
                    try simp only [zA, zS, zZ, Act.put, zP, zQ, zR]
                    refine Node.on 22 rfl (fun K hK => ?_)
                    refine Node.wp_fn 63 [.tmp 77, .tmp 81] _ [Bt.bv (Value.slice A2 B2.length c2) N1, .bool x8] (by rfl) (by kernel_rfl) enFl.out (flag28_c (Value.slice A2 B2.length c2) B2 (l2 ++ numBits (oneN x6 (!x6)) 2) x8 N1 N2 _ (by have h := HN1.out; simp only [List.length_append, List.length_cons, List.length_nil, numBits_length] at h ⊢; omega) HN2.out s2 h2 (by simp only [List.length_append, List.length_cons, List.length_nil, numBits_length]; have := HLL2.out; omega)) ?_
                    rintro e V3 ⟨bF, A3, c3, B3, rfl, s3, h3⟩
                    refine ⟨_, rfl, ?_⟩
                    replace P := P.later bF
                    try replace s2 := s2.later bF
                    clear bF
                    refine hK.out _ _ (hZ.out _ _ _ _ _ P) (fun _ => ?_)
                    clear hK K
                    try simp only [zA, zS, zZ, Act.put, zP, zQ, zR]
                    refine Node.on 23 rfl (fun K hK => ?_)
                    obtain ⟨V', hW, P', ths⟩ := P.fill (N' := N2) s3 h3 (by have h := HN2.out; simp only [List.length_append, List.length_cons, List.length_nil, numBits_length] at h ⊢; omega)
                    refine wp_store_mid 84 (.tmp 5) (.tmp 82) (by rfl) (w.heap.size + 1 + 1) 0 [(Value.slice A3 B3.length c3), .int .i64 N2].toArray (by rfl) (by rfl) ths bits_size28 (one_bits28 rfl _) ?_
                    rw [hW]
                    clear hW ths P
                    have P := P'
                    clear P'
                    refine hK.out _ _ (hZ.out _ _ _ _ _ P) (fun _ => ?_)
                    clear hK K
                    try simp only [zA, zS, zZ, Act.put, zP, zQ, zR]
                    refine wpAnyH_done (by kernel_rfl) ?_ _
                    go_wp2
                    go_roundw
                    case rel => exact ⟨k + 1, _, _, _, by omega, by go_num, by rw [sig_p, HLB.out, X5.out, X6.out, X7.out, X8.out, HL2.out]; simpa using P⟩
                    case measure => simp [intOf]; omega
                  · skip
                    refine Node.wp_fn 64 [.tmp 71, .tmp 72] _ [.int .u32 s.steady.toNat, .int .i64 k] (by rfl) (by kernel_rfl) enIs.out (is28_c s.steady k x6 _ k32 X6.out.symm) ?_
                    rintro e V' ⟨rfl, rfl⟩
                    refine ⟨_, rfl, ?_⟩
                    refine hK.out _ _ (hZ.out _ _ _ _ _ P) (fun _ => ?_)
                    clear hK K
                    try simp only [zA, zS, zZ, Act.put, zP, zQ, zR]
                    have hHeld := hZ.out _ _ _ _ _ P
                    refine Node.tk 14 ?_ rfl ?_ ?_
                    rotate_left
                    · intro w hSw; (try dsimp only at hSw); go_simp; try with_reducible rfl
                    simp only [zA, zS, zZ, Act.put, zP, zQ, zR]
                    refine Node.tk 15 ?_ rfl ?_ ?_
                    rotate_left
                    · intro w hSw; (try dsimp only at hSw); go_simp; try with_reducible rfl
                    simp only [zA, zS, zZ, Act.put, zP, zQ, zR]
                    clear hHeld
                    refine wpAnyH_ready (rs := [0, 16]) (by kernel_rfl) (by simp) ?_
                    refine AllReadyH.cons rfl (fun K hK => ?_) (AllReadyH.cons rfl (fun K hK => ?_) AllReadyH.nil)
                    · skip
                      refine wp_load_mid 84 (.tmp 5) (by rfl) (w.heap.size + 1 + 1) 0 (by rfl) [v, .int .i64 N] _ (range_of (cs := [v, .int .i64 N]) P.xv.x) Tryz.underlying84 rfl bits_size28 ?_
                      refine hK.out _ _ (hZ.out _ _ _ _ _ P) (fun _ => ?_)
                      clear hK K
                      try simp only [zA, zS, zZ, Act.put, zP, zQ, zR]
                      refine Node.on 16 rfl (fun K hK => ?_)
                      refine Node.wp_fn 66 [.tmp 64, .tmp 75] _ [.bool x6, .bool (!x6)] (by rfl) (by kernel_rfl) enOn.out (one28_c x6 (!x6) _) ?_
                      rintro e V' ⟨rfl, rfl⟩
                      refine ⟨_, rfl, ?_⟩
                      refine hK.out _ _ (hZ.out _ _ _ _ _ P) (fun _ => ?_)
                      clear hK K
                      try simp only [zA, zS, zZ, Act.put, zP, zQ, zR]
                      refine Node.on 17 rfl (fun K hK => ?_)
                      refine Node.wp_fn 65 [.tmp 60, .tmp 76, .const (.int .i64 2)] _ [Bt.bv v N, .int .i64 (oneN x6 (!x6) : Nat), .int .i64 2] (by rfl) (by kernel_rfl) enPu.out (put28_c v B l2 (oneN x6 (!x6)) 2 N N1 _ _ _ P.xv.n HN1.out rfl rfl P.xv.sl P.xv.h (by have := HLL2.out; omega) (by omega) (oneN_lt _ _)) ?_
                      rintro e V2 ⟨bF, A2, c2, B2, rfl, s2, h2⟩
                      refine ⟨_, rfl, ?_⟩
                      replace P := P.later bF
                      clear bF
                      refine hK.out _ _ (hZ.out _ _ _ _ _ P) (fun _ => ?_)
                      clear hK K
                      try simp only [zA, zS, zZ, Act.put, zP, zQ, zR]
                      refine Node.on 21 rfl (fun K hK => ?_)
                      refine Node.wp_fn 64 [.tmp 79, .tmp 80] _ [.int .u32 s.autos.toNat, .int .i64 k] (by rfl) (by kernel_rfl) enIs.out (is28_c s.autos k x8 _ k32 X8.out.symm) ?_
                      rintro e V' ⟨rfl, rfl⟩
                      refine ⟨_, rfl, ?_⟩
                      refine hK.out _ _ (hZ.out _ _ _ _ _ P) (fun _ => ?_)
                      clear hK K
                      try simp only [zA, zS, zZ, Act.put, zP, zQ, zR]
                      refine Node.on 22 rfl (fun K hK => ?_)
                      refine Node.wp_fn 63 [.tmp 77, .tmp 81] _ [Bt.bv (Value.slice A2 B2.length c2) N1, .bool x8] (by rfl) (by kernel_rfl) enFl.out (flag28_c (Value.slice A2 B2.length c2) B2 (l2 ++ numBits (oneN x6 (!x6)) 2) x8 N1 N2 _ (by have h := HN1.out; simp only [List.length_append, List.length_cons, List.length_nil, numBits_length] at h ⊢; omega) HN2.out s2 h2 (by simp only [List.length_append, List.length_cons, List.length_nil, numBits_length]; have := HLL2.out; omega)) ?_
                      rintro e V3 ⟨bF, A3, c3, B3, rfl, s3, h3⟩
                      refine ⟨_, rfl, ?_⟩
                      replace P := P.later bF
                      try replace s2 := s2.later bF
                      clear bF
                      refine hK.out _ _ (hZ.out _ _ _ _ _ P) (fun _ => ?_)
                      clear hK K
                      try simp only [zA, zS, zZ, Act.put, zP, zQ, zR]
                      refine Node.on 23 rfl (fun K hK => ?_)
                      obtain ⟨V', hW, P', ths⟩ := P.fill (N' := N2) s3 h3 (by have h := HN2.out; simp only [List.length_append, List.length_cons, List.length_nil, numBits_length] at h ⊢; omega)
                      refine wp_store_mid 84 (.tmp 5) (.tmp 82) (by rfl) (w.heap.size + 1 + 1) 0 [(Value.slice A3 B3.length c3), .int .i64 N2].toArray (by rfl) (by rfl) ths bits_size28 (one_bits28 rfl _) ?_
                      rw [hW]
                      clear hW ths P
                      have P := P'
                      clear P'
                      refine hK.out _ _ (hZ.out _ _ _ _ _ P) (fun _ => ?_)
                      clear hK K
                      try simp only [zA, zS, zZ, Act.put, zP, zQ, zR]
                      refine wpAnyH_done (by kernel_rfl) ?_ _
                      go_wp2
                      go_roundw
                      case rel => exact ⟨k + 1, _, _, _, by omega, by go_num, by rw [sig_p, HLB.out, X5.out, X6.out, X7.out, X8.out, HL2.out]; simpa using P⟩
                      case measure => simp [intOf]; omega
                    · skip
                      refine Node.wp_fn 66 [.tmp 64, .tmp 75] _ [.bool x6, .bool (!x6)] (by rfl) (by kernel_rfl) enOn.out (one28_c x6 (!x6) _) ?_
                      rintro e V' ⟨rfl, rfl⟩
                      refine ⟨_, rfl, ?_⟩
                      refine hK.out _ _ (hZ.out _ _ _ _ _ P) (fun _ => ?_)
                      clear hK K
                      try simp only [zA, zS, zZ, Act.put, zP, zQ, zR]
                      refine Node.on 0 rfl (fun K hK => ?_)
                      refine wp_load_mid 84 (.tmp 5) (by rfl) (w.heap.size + 1 + 1) 0 (by rfl) [v, .int .i64 N] _ (range_of (cs := [v, .int .i64 N]) P.xv.x) Tryz.underlying84 rfl bits_size28 ?_
                      refine hK.out _ _ (hZ.out _ _ _ _ _ P) (fun _ => ?_)
                      clear hK K
                      try simp only [zA, zS, zZ, Act.put, zP, zQ, zR]
                      refine Node.on 17 rfl (fun K hK => ?_)
                      refine Node.wp_fn 65 [.tmp 60, .tmp 76, .const (.int .i64 2)] _ [Bt.bv v N, .int .i64 (oneN x6 (!x6) : Nat), .int .i64 2] (by rfl) (by kernel_rfl) enPu.out (put28_c v B l2 (oneN x6 (!x6)) 2 N N1 _ _ _ P.xv.n HN1.out rfl rfl P.xv.sl P.xv.h (by have := HLL2.out; omega) (by omega) (oneN_lt _ _)) ?_
                      rintro e V2 ⟨bF, A2, c2, B2, rfl, s2, h2⟩
                      refine ⟨_, rfl, ?_⟩
                      replace P := P.later bF
                      clear bF
                      refine hK.out _ _ (hZ.out _ _ _ _ _ P) (fun _ => ?_)
                      clear hK K
                      try simp only [zA, zS, zZ, Act.put, zP, zQ, zR]
                      refine Node.on 21 rfl (fun K hK => ?_)
                      refine Node.wp_fn 64 [.tmp 79, .tmp 80] _ [.int .u32 s.autos.toNat, .int .i64 k] (by rfl) (by kernel_rfl) enIs.out (is28_c s.autos k x8 _ k32 X8.out.symm) ?_
                      rintro e V' ⟨rfl, rfl⟩
                      refine ⟨_, rfl, ?_⟩
                      refine hK.out _ _ (hZ.out _ _ _ _ _ P) (fun _ => ?_)
                      clear hK K
                      try simp only [zA, zS, zZ, Act.put, zP, zQ, zR]
                      refine Node.on 22 rfl (fun K hK => ?_)
                      refine Node.wp_fn 63 [.tmp 77, .tmp 81] _ [Bt.bv (Value.slice A2 B2.length c2) N1, .bool x8] (by rfl) (by kernel_rfl) enFl.out (flag28_c (Value.slice A2 B2.length c2) B2 (l2 ++ numBits (oneN x6 (!x6)) 2) x8 N1 N2 _ (by have h := HN1.out; simp only [List.length_append, List.length_cons, List.length_nil, numBits_length] at h ⊢; omega) HN2.out s2 h2 (by simp only [List.length_append, List.length_cons, List.length_nil, numBits_length]; have := HLL2.out; omega)) ?_
                      rintro e V3 ⟨bF, A3, c3, B3, rfl, s3, h3⟩
                      refine ⟨_, rfl, ?_⟩
                      replace P := P.later bF
                      try replace s2 := s2.later bF
                      clear bF
                      refine hK.out _ _ (hZ.out _ _ _ _ _ P) (fun _ => ?_)
                      clear hK K
                      try simp only [zA, zS, zZ, Act.put, zP, zQ, zR]
                      refine Node.on 23 rfl (fun K hK => ?_)
                      obtain ⟨V', hW, P', ths⟩ := P.fill (N' := N2) s3 h3 (by have h := HN2.out; simp only [List.length_append, List.length_cons, List.length_nil, numBits_length] at h ⊢; omega)
                      refine wp_store_mid 84 (.tmp 5) (.tmp 82) (by rfl) (w.heap.size + 1 + 1) 0 [(Value.slice A3 B3.length c3), .int .i64 N2].toArray (by rfl) (by rfl) ths bits_size28 (one_bits28 rfl _) ?_
                      rw [hW]
                      clear hW ths P
                      have P := P'
                      clear P'
                      refine hK.out _ _ (hZ.out _ _ _ _ _ P) (fun _ => ?_)
                      clear hK K
                      try simp only [zA, zS, zZ, Act.put, zP, zQ, zR]
                      refine wpAnyH_done (by kernel_rfl) ?_ _
                      go_wp2
                      go_roundw
                      case rel => exact ⟨k + 1, _, _, _, by omega, by go_num, by rw [sig_p, HLB.out, X5.out, X6.out, X7.out, X8.out, HL2.out]; simpa using P⟩
                      case measure => simp [intOf]; omega
        · obtain rfl : k = m2 := by omega
          have i4 : decide (k < k) = false := decide_eq_false (by omega)
          go_upto_region 13 with (fail)
          obtain ⟨lb, hlb⟩ : ∃ lb, ls ++ fbits (sigsF s k) = lb := ⟨_, rfl⟩
          have hll : lb.length ≤ 300 := by rw [← hlb, List.length_append, fbits_len, sigsF_w]; have := HLS2.out; omega
          rw [hlb] at P
          have HLB := Lib.hid hlb
          have HLL := Lib.hid hll
          clear hlb hll
          obtain ⟨e1, he1⟩ : ∃ n, n = (min s.code 7).toNat := ⟨_, rfl⟩
          obtain ⟨e2, he2⟩ : ∃ n, n = (min (max s.waiting 0) 7).toNat := ⟨_, rfl⟩
          obtain ⟨e3, he3⟩ : ∃ n, n = (max s.errors 0 % 256).toNat := ⟨_, rfl⟩
          have q1 : (e1 : Int) = min (max s.code 0) 7 := by have := HCD.out; omega
          have q2 : (e2 : Int) = min (max s.waiting 0) 7 := by omega
          have q3 : (max s.errors 0).tmod 256 = (e3 : Int) := by rw [Int.tmod_eq_emod_of_nonneg (by omega)]; omega
          have w1 : e1 < 2 ^ 3 := by have := HCD.out; omega
          have w2 : e2 < 2 ^ 3 := by omega
          have w3 : e3 < 2 ^ 8 := by omega
          have HW1 := Lib.hid w1
          have HW2 := Lib.hid w2
          have HW3 := Lib.hid w3
          have Q1 := Lib.hid q1
          have Q2 := Lib.hid q2
          have Q3 := Lib.hid q3
          have HEE := Lib.hid (show fbits (endF s) = numBits e1 3 ++ (numBits e2 3 ++ numBits e3 8) by rw [he1, he2, he3]; simp [fbits, endF])
          have hcw1 : IntKind.i64.wrap s.code = s.code := by rw [IntKind.wrap_i64]; have := HCD.out; omega
          have hcw2 : wrap64 s.code = s.code := by unfold wrap64; have := HCD.out; omega
          obtain ⟨cb0, cb1⟩ := HCD.out
          clear he1 he2 he3 q1 q2 w1 w2 w3
          go_cut [97] from 83 to 96 (fun x97 wx => ∃ (v' : Value) (B' : List (BitVec 8)) (N' : Int), PB w wx L S v' B' (((lb ++ numBits e1 3) ++ numBits e2 3) ++ numBits e3 8) N')
          case first =>
            have hZ := Lib.hid (fun (W : World) (v : Value) (B : List (BitVec 8)) (l : List Bool) (N : Int) (P : PB w W L S v B l N) => And.intro (cell_list P.s HS9.out) (And.intro (cell_list P.s HS10.out) (cell_list P.s HS11.out)))
            obtain ⟨N1, hN1⟩ : ∃ N : Int, N = ((lb.length + 3 : Nat) : Int) := ⟨_, rfl⟩
            have HN1 := Lib.hid hN1
            clear hN1
            obtain ⟨N2, hN2⟩ : ∃ N : Int, N = (((lb ++ numBits e1 3).length + 3 : Nat) : Int) := ⟨_, rfl⟩
            have HN2 := Lib.hid hN2
            clear hN2
            obtain ⟨N3, hN3⟩ : ∃ N : Int, N = ((((lb ++ numBits e1 3) ++ numBits e2 3).length + 8 : Nat) : Int) := ⟨_, rfl⟩
            have HN3 := Lib.hid hN3
            clear hN3
            refine wp_region_held_drew (S := (fun w' => w'.cell? ⟨w.heap.size + 1, 9, none⟩ = some (.int .u8 s.code) ∧ w'.cell? ⟨w.heap.size + 1, 10, none⟩ = some (.int .i64 s.waiting) ∧ w'.cell? ⟨w.heap.size + 1, 11, none⟩ = some (.int .i64 s.errors))) (by kernel_rfl) ?_ (fun hHeld => ?_)
            · exact hZ.out _ _ _ _ _ (P.later (Below.refl _ _).drew)
            replace P := P.later (Below.refl _ _).drew
            refine Node.tk 1 ?_ rfl ?_ ?_
            rotate_left
            · intro w hSw; (try dsimp only at hSw); go_simp; try with_reducible rfl
            simp only [zA, zS, zZ, Act.put, zP, zQ, zR]
            refine Node.tk 2 ?_ rfl ?_ ?_
            rotate_left
            · intro w hSw; (try dsimp only at hSw); go_simp; try with_reducible rfl
            simp only [zA, zS, zZ, Act.put, zP, zQ, zR]
            refine Node.tk 3 ?_ rfl ?_ ?_
            rotate_left
            · intro w hSw; (try dsimp only at hSw); go_simp; try with_reducible rfl
            simp only [zA, zS, zZ, Act.put, zP, zQ, zR]
            refine Node.tk 6 ?_ rfl ?_ ?_
            rotate_left
            · intro w hSw; (try dsimp only at hSw); go_simp; try with_reducible rfl
            simp only [zA, zS, zZ, Act.put, zP, zQ, zR]
            refine Node.tk 7 ?_ rfl ?_ ?_
            rotate_left
            · intro w hSw; (try dsimp only at hSw); go_simp; try with_reducible rfl
            simp only [zA, zS, zZ, Act.put, zP, zQ, zR]
            refine Node.tk 10 ?_ rfl ?_ ?_
            rotate_left
            · intro w hSw; (try dsimp only at hSw); go_simp; try with_reducible rfl
            simp only [zA, zS, zZ, Act.put, zP, zQ, zR]
            refine Node.tk 11 ?_ rfl ?_ ?_
            rotate_left
            · intro w hSw; (try dsimp only at hSw); go_simp; try with_reducible rfl
            simp only [zA, zS, zZ, Act.put, zP, zQ, zR]
            refine Node.tk 12 ?_ rfl ?_ ?_
            rotate_left
            · intro w hSw; (try dsimp only at hSw); go_simp; try with_reducible rfl
            simp only [zA, zS, zZ, Act.put, zP, zQ, zR]
            refine Node.tk 13 ?_ rfl ?_ ?_
            rotate_left
            · intro w hSw; (try dsimp only at hSw); go_simp; try with_reducible rfl
            simp only [zA, zS, zZ, Act.put, zP, zQ, zR]
            clear hHeld
            refine wpAnyH_ready (rs := [0, 4]) (by kernel_rfl) (by simp) ?_
            refine AllReadyH.cons rfl (fun K hK => ?_) (AllReadyH.cons rfl (fun K hK => ?_) AllReadyH.nil)
            · skip
              refine wp_load_mid 84 (.tmp 5) (by rfl) (w.heap.size + 1 + 1) 0 (by rfl) [v, .int .i64 N] _ (range_of (cs := [v, .int .i64 N]) P.xv.x) Tryz.underlying84 rfl bits_size28 ?_
              refine hK.out _ _ (hZ.out _ _ _ _ _ P) (fun _ => ?_)
              clear hK K
              try simp only [zA, zS, zZ, Act.put, zP, zQ, zR]
              refine Node.on 4 rfl (fun K hK => ?_)
              refine Node.wp_fn 67 [.tmp 86, .const (.int .i64 7)] _ [.int .i64 s.code, .int .i64 7] (by rfl) (by kernel_rfl) enFw.out (few28_c s.code 7 (e1 : Int) _ Q1.out) ?_
              rintro e V' ⟨rfl, rfl⟩
              refine ⟨_, rfl, ?_⟩
              refine hK.out _ _ (hZ.out _ _ _ _ _ P) (fun _ => ?_)
              clear hK K
              try simp only [zA, zS, zZ, Act.put, zP, zQ, zR]
              refine Node.on 5 rfl (fun K hK => ?_)
              refine Node.wp_fn 65 [.tmp 83, .tmp 87, .const (.int .i64 3)] _ [Bt.bv v N, .int .i64 (e1 : Int), .int .i64 3] (by rfl) (by kernel_rfl) enPu.out (put28_c v B lb e1 3 N N1 _ _ _ P.xv.n HN1.out rfl rfl P.xv.sl P.xv.h (by have := HLL.out; omega) (by omega) HW1.out) ?_
              rintro e V2 ⟨bF, A2, c2, B2, rfl, s2, h2⟩
              refine ⟨_, rfl, ?_⟩
              replace P := P.later bF
              clear bF
              refine hK.out _ _ (hZ.out _ _ _ _ _ P) (fun _ => ?_)
              clear hK K
              try simp only [zA, zS, zZ, Act.put, zP, zQ, zR]
              refine Node.on 8 rfl (fun K hK => ?_)
              refine Node.wp_fn 67 [.tmp 90, .const (.int .i64 7)] _ [.int .i64 s.waiting, .int .i64 7] (by rfl) (by kernel_rfl) enFw.out (few28_c s.waiting 7 (e2 : Int) _ Q2.out) ?_
              rintro e V' ⟨rfl, rfl⟩
              refine ⟨_, rfl, ?_⟩
              refine hK.out _ _ (hZ.out _ _ _ _ _ P) (fun _ => ?_)
              clear hK K
              try simp only [zA, zS, zZ, Act.put, zP, zQ, zR]
              refine Node.on 9 rfl (fun K hK => ?_)
              refine Node.wp_fn 65 [.tmp 88, .tmp 91, .const (.int .i64 3)] _ [Bt.bv (Value.slice A2 B2.length c2) N1, .int .i64 (e2 : Int), .int .i64 3] (by rfl) (by kernel_rfl) enPu.out (put28_c (Value.slice A2 B2.length c2) B2 (lb ++ numBits e1 3) e2 3 N1 N2 _ _ _ (by have h := HN1.out; simp only [List.length_append, List.length_cons, List.length_nil, numBits_length] at h ⊢; omega) HN2.out rfl rfl s2 h2 (by simp only [List.length_append, List.length_cons, List.length_nil, numBits_length]; have := HLL.out; omega) (by omega) HW2.out) ?_
              rintro e V3 ⟨bF, A3, c3, B3, rfl, s3, h3⟩
              refine ⟨_, rfl, ?_⟩
              replace P := P.later bF
              try replace s2 := s2.later bF
              clear bF
              refine hK.out _ _ (hZ.out _ _ _ _ _ P) (fun _ => ?_)
              clear hK K
              try simp only [zA, zS, zZ, Act.put, zP, zQ, zR]
              refine Node.on 14 rfl (fun K hK => ?_)
              refine Node.wp_fn 65 [.tmp 92, .tmp 96, .const (.int .i64 8)] _ [Bt.bv (Value.slice A3 B3.length c3) N2, .int .i64 (e3 : Int), .int .i64 8] (by rfl) (by kernel_rfl) enPu.out (put28_c (Value.slice A3 B3.length c3) B3 ((lb ++ numBits e1 3) ++ numBits e2 3) e3 8 N2 N3 _ _ _ (by have h := HN2.out; simp only [List.length_append, List.length_cons, List.length_nil, numBits_length] at h ⊢; omega) HN3.out rfl rfl s3 h3 (by simp only [List.length_append, List.length_cons, List.length_nil, numBits_length]; have := HLL.out; omega) (by omega) HW3.out) ?_
              rintro e V4 ⟨bF, A4, c4, B4, rfl, s4, h4⟩
              refine ⟨_, rfl, ?_⟩
              replace P := P.later bF
              try replace s2 := s2.later bF
              try replace s3 := s3.later bF
              clear bF
              refine hK.out _ _ (hZ.out _ _ _ _ _ P) (fun _ => ?_)
              clear hK K
              try simp only [zA, zS, zZ, Act.put, zP, zQ, zR]
              refine Node.on 15 rfl (fun K hK => ?_)
              obtain ⟨V', hW, P', ths⟩ := P.fill (N' := N3) s4 h4 (by have h := HN3.out; simp only [List.length_append, List.length_cons, List.length_nil, numBits_length] at h ⊢; omega)
              refine wp_store_mid 84 (.tmp 5) (.tmp 97) (by rfl) (w.heap.size + 1 + 1) 0 [(Value.slice A4 B4.length c4), .int .i64 N3].toArray (by rfl) (by rfl) ths bits_size28 (one_bits28 rfl _) ?_
              rw [hW]
              clear hW ths P
              have P := P'
              clear P'
              refine hK.out _ _ (hZ.out _ _ _ _ _ P) (fun _ => ?_)
              clear hK K
              try simp only [zA, zS, zZ, Act.put, zP, zQ, zR]
              refine wpAnyH_done (by kernel_rfl) ?_ _
              go_wp2
              go_meet
              exact ⟨_, _, _, P⟩
            · skip
              refine Node.wp_fn 67 [.tmp 86, .const (.int .i64 7)] _ [.int .i64 s.code, .int .i64 7] (by rfl) (by kernel_rfl) enFw.out (few28_c s.code 7 (e1 : Int) _ Q1.out) ?_
              rintro e V' ⟨rfl, rfl⟩
              refine ⟨_, rfl, ?_⟩
              refine hK.out _ _ (hZ.out _ _ _ _ _ P) (fun _ => ?_)
              clear hK K
              try simp only [zA, zS, zZ, Act.put, zP, zQ, zR]
              refine Node.on 0 rfl (fun K hK => ?_)
              refine wp_load_mid 84 (.tmp 5) (by rfl) (w.heap.size + 1 + 1) 0 (by rfl) [v, .int .i64 N] _ (range_of (cs := [v, .int .i64 N]) P.xv.x) Tryz.underlying84 rfl bits_size28 ?_
              refine hK.out _ _ (hZ.out _ _ _ _ _ P) (fun _ => ?_)
              clear hK K
              try simp only [zA, zS, zZ, Act.put, zP, zQ, zR]
              refine Node.on 5 rfl (fun K hK => ?_)
              refine Node.wp_fn 65 [.tmp 83, .tmp 87, .const (.int .i64 3)] _ [Bt.bv v N, .int .i64 (e1 : Int), .int .i64 3] (by rfl) (by kernel_rfl) enPu.out (put28_c v B lb e1 3 N N1 _ _ _ P.xv.n HN1.out rfl rfl P.xv.sl P.xv.h (by have := HLL.out; omega) (by omega) HW1.out) ?_
              rintro e V2 ⟨bF, A2, c2, B2, rfl, s2, h2⟩
              refine ⟨_, rfl, ?_⟩
              replace P := P.later bF
              clear bF
              refine hK.out _ _ (hZ.out _ _ _ _ _ P) (fun _ => ?_)
              clear hK K
              try simp only [zA, zS, zZ, Act.put, zP, zQ, zR]
              refine Node.on 8 rfl (fun K hK => ?_)
              refine Node.wp_fn 67 [.tmp 90, .const (.int .i64 7)] _ [.int .i64 s.waiting, .int .i64 7] (by rfl) (by kernel_rfl) enFw.out (few28_c s.waiting 7 (e2 : Int) _ Q2.out) ?_
              rintro e V' ⟨rfl, rfl⟩
              refine ⟨_, rfl, ?_⟩
              refine hK.out _ _ (hZ.out _ _ _ _ _ P) (fun _ => ?_)
              clear hK K
              try simp only [zA, zS, zZ, Act.put, zP, zQ, zR]
              refine Node.on 9 rfl (fun K hK => ?_)
              refine Node.wp_fn 65 [.tmp 88, .tmp 91, .const (.int .i64 3)] _ [Bt.bv (Value.slice A2 B2.length c2) N1, .int .i64 (e2 : Int), .int .i64 3] (by rfl) (by kernel_rfl) enPu.out (put28_c (Value.slice A2 B2.length c2) B2 (lb ++ numBits e1 3) e2 3 N1 N2 _ _ _ (by have h := HN1.out; simp only [List.length_append, List.length_cons, List.length_nil, numBits_length] at h ⊢; omega) HN2.out rfl rfl s2 h2 (by simp only [List.length_append, List.length_cons, List.length_nil, numBits_length]; have := HLL.out; omega) (by omega) HW2.out) ?_
              rintro e V3 ⟨bF, A3, c3, B3, rfl, s3, h3⟩
              refine ⟨_, rfl, ?_⟩
              replace P := P.later bF
              try replace s2 := s2.later bF
              clear bF
              refine hK.out _ _ (hZ.out _ _ _ _ _ P) (fun _ => ?_)
              clear hK K
              try simp only [zA, zS, zZ, Act.put, zP, zQ, zR]
              refine Node.on 14 rfl (fun K hK => ?_)
              refine Node.wp_fn 65 [.tmp 92, .tmp 96, .const (.int .i64 8)] _ [Bt.bv (Value.slice A3 B3.length c3) N2, .int .i64 (e3 : Int), .int .i64 8] (by rfl) (by kernel_rfl) enPu.out (put28_c (Value.slice A3 B3.length c3) B3 ((lb ++ numBits e1 3) ++ numBits e2 3) e3 8 N2 N3 _ _ _ (by have h := HN2.out; simp only [List.length_append, List.length_cons, List.length_nil, numBits_length] at h ⊢; omega) HN3.out rfl rfl s3 h3 (by simp only [List.length_append, List.length_cons, List.length_nil, numBits_length]; have := HLL.out; omega) (by omega) HW3.out) ?_
              rintro e V4 ⟨bF, A4, c4, B4, rfl, s4, h4⟩
              refine ⟨_, rfl, ?_⟩
              replace P := P.later bF
              try replace s2 := s2.later bF
              try replace s3 := s3.later bF
              clear bF
              refine hK.out _ _ (hZ.out _ _ _ _ _ P) (fun _ => ?_)
              clear hK K
              try simp only [zA, zS, zZ, Act.put, zP, zQ, zR]
              refine Node.on 15 rfl (fun K hK => ?_)
              obtain ⟨V', hW, P', ths⟩ := P.fill (N' := N3) s4 h4 (by have h := HN3.out; simp only [List.length_append, List.length_cons, List.length_nil, numBits_length] at h ⊢; omega)
              refine wp_store_mid 84 (.tmp 5) (.tmp 97) (by rfl) (w.heap.size + 1 + 1) 0 [(Value.slice A4 B4.length c4), .int .i64 N3].toArray (by rfl) (by rfl) ths bits_size28 (one_bits28 rfl _) ?_
              rw [hW]
              clear hW ths P
              have P := P'
              clear P'
              refine hK.out _ _ (hZ.out _ _ _ _ _ P) (fun _ => ?_)
              clear hK K
              try simp only [zA, zS, zZ, Act.put, zP, zQ, zR]
              refine wpAnyH_done (by kernel_rfl) ?_ _
              go_wp2
              go_meet
              exact ⟨_, _, _, P⟩
          case rest =>
            clear P q3
            obtain ⟨v, B, N, P⟩ := hcut
            have hpay : ((lb ++ numBits e1 3) ++ numBits e2 3) ++ numBits e3 8 = fbits (flds s kinds nsig) := by
              unfold flds
              rw [HM1.out, HM2.out, fbits_app, fbits_app, HEE.out, HLS.out, ← HLB.out]
              simp only [List.append_assoc]
            have hpl : (((lb ++ numBits e1 3) ++ numBits e2 3) ++ numBits e3 8).length ≤ 400 := by simp only [List.length_append, numBits_length]; have := HLL.out; omega
            rw [hpay] at P hpl
            have hbl : B.length ≤ 100 := by have := P.xv.h.1; rw [this]; omega
            have HPL := Lib.hid hpl
            have HBl := Lib.hid hbl
            clear hpay hpl hbl
            have d0 := cell_at P.xv.x 0
            have d1 := cell_at P.xv.x 1
            obtain ⟨Ax, cx, rfl, _⟩ := P.xv.sl.form
            go_upto_region 14 with (fail)
            go_wp2_with fail
            refine (Bt.refPad_g (.slice Ax B.length cx) B (fbits (flds s kinds nsig)) N ((B.length : Int) * 8) _ P.xv.n rfl P.xv.sl P.xv.h (by have := HPL.out; omega)).mono ?_
            rintro e V8 ⟨b8, A8, c8, rfl, s8⟩
            have hx8 := var_later P.xv.x b8
            have s9 := sl_far s8 hx8 (fun n e => by cases e) (far2 V8 (w.heap.size + 1 + 1) (.slice A8 B.length c8) (.int .i64 ((B.length : Int) * 8)))
            have g9 : ((V8.setCell ⟨w.heap.size + 1 + 1, 0, none⟩ (.slice A8 B.length c8)).setCell ⟨w.heap.size + 1 + 1, 1, none⟩ (.int .i64 ((B.length : Int) * 8))).heap[w.heap.size + 1 + 1]? = some (.cells #[.slice A8 B.length c8, .int .i64 ((B.length : Int) * 8)] 84 (0, 0)) := by rw [set_at (set_at hx8 0 _) 1]; simp
            have b9 : Below w.heap.size w ((V8.setCell ⟨w.heap.size + 1 + 1, 0, none⟩ (.slice A8 B.length c8)).setCell ⟨w.heap.size + 1 + 1, 1, none⟩ (.int .i64 ((B.length : Int) * 8))) := ((below_step P.xv.b b8).setCell (by simp; omega) _).setCell (by simp; omega) _
            have e0 := free_at hx8 0
            have e1 := free_at hx8 1
            have h0 := cell_at hx8 0
            have h1 := cell_at hx8 1
            have HH := Lib.hid P.xv.h
            clear d0 d1
            go_upto_region 15 with (fail)
            clear e0 e1 h0 h1 hx8 P b8 s8
            generalize (V8.setCell ⟨w.heap.size + 1 + 1, 0, none⟩ (.slice A8 B.length c8)).setCell ⟨w.heap.size + 1 + 1, 1, none⟩ (.int .i64 ((B.length : Int) * 8)) = V9 at *
            obtain ⟨i0, hi, hz0, hz1, hz2⟩ := info_parts info_u8
            have hown := own_empty V9 5 1
            have ba := below_new V9 (.cells #[] 5)
            have hsrc := s9.later ba
            have x9 := cell_at (var_later g9 ba) 0
            have hbl := HBl.out
            go_wp2_with (at_builtin; go_loud (refine wpList_append_src (by rfl) (.tmp 103) (.tmp 105) _ (by rfl) V9.heap.size 5 i0 _ 1 1 Tryz.underlying53 hi hz0 hz1 hz2 rfl (by omega) (.slice (some ⟨V9.heap.size, 0, none⟩) 0 0) 0 [] (by rfl) hown (.slice A8 B.length c8) B.length (u8s B) (by rfl) hsrc (u8s_one B) (by simp only [maxLen]; omega) (by omega) (by simp) ?_; intro v1 w1 ho1 hg1 _; obtain ⟨A1q, c1q, rfl, _, _⟩ := (sliceAt_of_own ho1).form; have hw := below_own (below_step b9 ba) hg1 (by have := (below_step b9 ba).size; omega) (by intro g hg; have e : V9.heap.size = g := Option.some.inj hg; have := b9.size; omega)))
            go_ret
            simp only [Nat.zero_add, List.nil_append] at ho1
            exact ⟨hw, A1q, c1q, B, by simp, sliceAt_of_own ho1, HH.out⟩
theorem refSize28_c (L : List Value) (kinds : List Int) (ss : List (List Value)) (nsig : Nat) (clr st : Int) (A : Option Addr) (c : Nat) (A1 : Option Addr) (c1 : Nat) (r : Int) (w : World) (hr : r = (((sumW (flds s0 kinds nsig) + 7) / 8 : Nat) : Int)) (hL : LY w L kinds ss nsig clr st A c A1 c1) :
    Calls Tryz.prog 15 #[.agg L.toArray] w fun e w' => e = .returned (.int .i64 r) ∧ Below w.heap.size w w' := by
  have szL := lay_size hL.f.len
  have b0 := below_new w (.cells L.toArray 29)
  have RL := range_of (new_at (w := w) rfl (.cells L.toArray 29))
  have CP := Lib.hid (refPut28_c L kinds ss nsig clr st A c A1 c1 s0 _ (hL.later b0) ⟨by decide, by decide⟩)
  have HR := Lib.hid hr
  clear hL hr
  go_enter Tryz.func15, Tryz.ntmps15
  go_upto_region 1 with (fail)
  generalize w.alloc (.cells L.toArray 29) = V at *
  go_wp2_with (first
    | refine wpList_load_k 29 (.tmp 1) (by rfl) w.heap.size 0 (by rfl) L _ RL Tryz.underlying29 rfl szL (by kernel_rfl) ?_
    | refine wpList_bld_k 52 [] _ _ (by rfl) (by rfl) (run_none _) (by kernel_rfl) ?_
    | fail)
  refine CP.out.mono ?_
  rintro e V2 ⟨b2, A', c', B, rfl, s2, hh⟩
  have hB : (B.length : Int) = r := by rw [HR.out, put_len hh]
  have B2 := below_step b0 b2
  clear RL s2 hh
  go_wp2
  go_ret
  exact ⟨rfl, B2⟩
end Go.Proofs.YtppcdmbpbbjecaaGreat
