/- The contract of the law's two. Nothing that was there is turned. -/
import Derived.Test.YtkmioplegjeopaaAspO
import Derived.Deep.CutRange
namespace Go.Proofs.Ytkmioplegjeopaa
open Go.RowKit Rf Mem Bv AM
attribute [local go_sem ↓] run_max2 run_min2
abbrev sec2 : Array Value := #[.int .u8 1, .int .i64 (-1), .int .i64 0, .int .i64 1, .int .i64 0, .int .i64 (-1), .int .i64 0, .int .i64 (-1), .int .i64 0, .int .i64 0, .int .i64 0, .int .u8 2, .int .i64 0, .int .i64 1, .int .i64 (-1), .int .i64 0, .int .i64 (-1), .int .i64 0, .int .i64 (-1), .int .i64 0, .int .i64 0, .int .i64 0]
abbrev zLay : Array Value := #[.slice none 0 0, .slice none 0 0, .slice none 0 0, .slice none 0 0, .int .i64 0, .int .i64 0, .int .i64 0, .int .i64 0, .int .i64 0, .int .i64 0, .int .i64 0]
abbrev layV (a b c : Value) : Array Value := #[a, b, c, .slice none 0 0, .int .i64 1, .int .i64 1, .int .i64 9, .int .i64 1, .int .i64 1, .int .i64 1, .int .i64 1]
abbrev st2 : List T3 := [(0, 0, 1), (1, 0, 1)]
abbrev nd1 : List T3 := [(1, 0, 1)]
/-- what two holds -/
structure TW (w W : World) (a b c : Value) : Prop where
  bel : Below w.heap.size w W
  z0 : W.heap[w.heap.size]? = some (.cells zLay 29 (0, 0))
  z1 : W.heap[w.heap.size + 1]? = some (.cells zImg 35 (0, 0))
  z2 : W.heap[w.heap.size + 1 + 1]? = some (.cells zHeld 52 (0, 0))
  n : W.heap[w.heap.size + 1 + 1 + 1]? = some (.cells #[.int .i64 (-1), .int .i64 0] 68 (0, 0))
  l : W.heap[w.heap.size + 1 + 1 + 1 + 1]? = some (.cells (layV a b c) 29 (0, 0))
theorem TW.later {w W W' : World} {a b c : Value} (h : TW w W a b c) (h' : Below W.heap.size W W') : TW w W' a b c :=
  ⟨below_step h.bel h', var_later h.z0 h', var_later h.z1 h', var_later h.z2 h', var_later h.n h', var_later h.l h'⟩
theorem TW.set {w W : World} {a b c : Value} (h : TW w W a b c) (i : Nat) (u a' b' c' : Value) (e : (layV a b c).setIfInBounds i u = layV a' b' c') : TW w (W.setCell ⟨w.heap.size + 1 + 1 + 1 + 1, i, none⟩ u) a' b' c' :=
  ⟨below_set h.bel (by omega) i u, set_far h.z0 (by simp; try omega) u, set_far h.z1 (by simp; try omega) u, set_far h.z2 (by simp; try omega) u, set_far h.n (by simp) u, e ▸ set_at h.l i u⟩
theorem wpList_bld {P : Program} {w : World} {ops : Array Oper} {rest : List Oper} {o : Oper} {a : Act} {Q : Exit → Act → World → Prop} (hgd : o.guard = none) (T : TypeId) (ps : List (Nat × Operand)) (vs : List (Nat × Value)) (cs : Value) (ho : o.op = .build T ps.toArray) (hp : ps.map (fun p => (p.1, a.eval p.2)) = vs)
    (hr : (Instr.build T vs.toArray).run P w = .ok cs w) (h : wpList P ops Q rest (a.put o.dst cs) w) : wpList P ops Q (o :: rest) a w :=
  wpList_plain hgd fun _ hK => Node.wp_val cs (by subst hp; unfold execOp; simp [ho, hr]) (hK _ _ h)
set_option maxRecDepth 100000 in
theorem run_hc (W : World) (A3 A5 : Option Addr) (n3 n5 c3 c5 : Nat) : (Instr.build 52 #[(0, .int .i64 1), (1, .agg #[.int .i64 0, .int .i64 0, .slice A3 n3 c3]), (3, .slice A5 n5 c5), (4, .int .u8 2)]).run Try.prog W = .ok (.agg (hcL 2 (.slice A3 n3 c3) (.slice none 0 0) (.slice A5 n5 c5) false).toArray) W := by
  go_simp
theorem tat_of {W : World} {g : Nat} {l : List T3} {E : TypeId} {f : Nat × Nat} {cs : Array Value} (h : W.heap[g]? = some (.cells cs E f)) (e : cs = (t3s l).toArray) (hl : l.length ≤ 2) : TAt W (.slice (some ⟨g, 0, none⟩) l.length l.length) l := by
  subst e
  exact ⟨some ⟨g, 0, none⟩, l.length, rfl, Nat.le_refl _, by simp only [maxLen]; omega, by unfold t3s; exact flatMap_len (sz := 3) (fun a _ => rfl), .inr ⟨g, 0, rfl, lt_at h, fun i u hu => by rw [Nat.zero_add]; exact cell_list h hu⟩⟩
theorem res_three {fn : Func} {tmps : Array Value} {W : World} {L M H : List Value} {g1 g2 g3 : Nat} {t1 t2 t3 : Tmp} {f1 f2 f3 : Nat × Nat} {u1 u2 u3 : TypeId} (hf : fn.results = #[.cell t1 29, .cell t2 35, .cell t3 52])
    (h1 : tmps.getD t1 undef = .pointer (some ⟨g1, 0, none⟩)) (h2 : tmps.getD t2 undef = .pointer (some ⟨g2, 0, none⟩)) (h3 : tmps.getD t3 undef = .pointer (some ⟨g3, 0, none⟩))
    (k1 : W.heap[g1]? = some (.cells L.toArray u1 f1)) (k2 : W.heap[g2]? = some (.cells M.toArray u2 f2)) (k3 : W.heap[g3]? = some (.cells H.toArray u3 f3)) (l1 : L.length = 11) (l2 : M.length = 29) (l3 : H.length = 23) :
    (results fn tmps).run Try.prog W = .ok (.tuple #[.agg L.toArray, .agg M.toArray, .agg H.toArray]) W := by
  have h1' : tmps[t1]?.getD undef = .pointer (some ⟨g1, 0, none⟩) := by simpa using h1
  have h2' : tmps[t2]?.getD undef = .pointer (some ⟨g2, 0, none⟩) := by simpa using h2
  have h3' : tmps[t3]?.getD undef = .pointer (some ⟨g3, 0, none⟩) := by simpa using h3
  have r1 := run_loadVar_mid (P := Try.prog) W g1 0 29 L _ (range_of k1) Try.underlying29 rfl (lay_size l1)
  have r2 := run_loadVar_mid (P := Try.prog) W g2 0 35 M _ (range_of k2) Try.underlying35 rfl (img_size l2)
  have r3 := run_loadVar_mid (P := Try.prog) W g3 0 52 H _ (range_of k3) Try.underlying52 rfl (held_size l3)
  simp [results, hf, h1', h2', h3', asAddr, r1, r2, r3]
set_option maxHeartbeats 2000000 in
set_option maxRecDepth 100000 in
theorem two_c (w : World) : Calls Try.prog 20 #[] w fun e w' => Below w.heap.size w w' ∧ ∃ (L M : List Value) (v3 v5 : Value) (A : Option Addr) (c : Nat) (A1 : Option Addr) (c1 : Nat), e = .returned (.tuple #[.agg L.toArray, .agg M.toArray, .agg (hcL 2 v3 (.slice none 0 0) v5 false).toArray]) ∧
    LayF L 2 1 1 9 A c A1 c1 ∧ SecsAt w' (.slice A 2 c) [1, 2] ∧ ImgF M 0 (List.replicate 24 1) 0#32 2#32 0#32 1#32 ∧ (∀ u ∈ L, u.oneCell' = true) ∧ TAt w' v3 st2 ∧ TAt w' v5 nd1 := by
  obtain ⟨W1, hW1⟩ : ∃ W1, ((((w.alloc (.cells zLay 29)).alloc (.cells zImg 35)).alloc (.cells zHeld 52)).alloc (.cells #[.int .i64 (-1), .int .i64 0] 68)).alloc (.cells (layV (.slice none 0 0) (.slice none 0 0) (.slice none 0 0)) 29) = W1 := ⟨_, rfl⟩
  have T : TW w W1 (.slice none 0 0) (.slice none 0 0) (.slice none 0 0) := by
    rw [← hW1]
    exact ⟨below_step (below_step (below_step (below_step (below_new _ _) (below_new _ _)) (below_new _ _)) (below_new _ _)) (below_new _ _), old_at (old_at (old_at (old_at (new_at rfl _) _) _) _) _, old_at (old_at (old_at (new_at (by simp) _) _) _) _, old_at (old_at (new_at (by simp) _) _) _, old_at (new_at (by simp) _) _, new_at (by simp) _⟩
  go_enter Try.func20, Try.ntmps20
  go_upto_region 3 with (fail)
  generalize ((((w.alloc (.cells zLay 29)).alloc (.cells zImg 35)).alloc (.cells zHeld 52)).alloc (.cells #[.int .i64 (-1), .int .i64 0] 68)).alloc (.cells (layV (.slice none 0 0) (.slice none 0 0) (.slice none 0 0)) 29) = W1' at *
  subst hW1
  go_cut [] from 9 to 22 (fun wx => ∃ gS : Nat, w.heap.size + 4 < gS ∧ TW w wx (.slice (some ⟨gS, 0, none⟩) 2 2) (.slice none 0 0) (.slice none 0 0) ∧ wx.heap[gS]? = some (.cells sec2 83 (0, 0)))
  case first =>
    skip
    have bN := below_new W1' (.cells sec2 83)
    have VN := new_at (w := W1') rfl (.cells sec2 83)
    have T2 := T.later bN
    have n0 := cell_at T.n 0
    have n1 := cell_at T.n 1
    have l0 := cell_at T2.l 0
    have f0 := free_at T2.l 0
    have hlt := lt_at T.l
    generalize hgS : W1'.heap.size = gS at *
    have T3 := T2.set 0 (.slice (some ⟨gS, 0, none⟩) 2 2) (.slice (some ⟨gS, 0, none⟩) 2 2) (.slice none 0 0) (.slice none 0 0) rfl
    replace VN := set_far VN (p := ⟨w.heap.size + 1 + 1 + 1 + 1, 0, none⟩) (by simp; omega) (.slice (some ⟨gS, 0, none⟩) 2 2)
    have HLT := Lib.hid hlt
    clear bN T2 T hlt
    go_wp2
    go_meet
    exact ⟨gS, by have := HLT.out; omega, T3, VN⟩
  case rest =>
    clear T
    obtain ⟨gS, hS, T, VS⟩ := hcut
    replace hS := Lib.hid hS
    go_upto_region 4 with (fail)
    go_cut [] from 23 to 26 (fun wx => ∃ gG : Nat, TW w wx (.slice (some ⟨gS, 0, none⟩) 2 2) (.slice (some ⟨gG, 0, none⟩) 1 1) (.slice none 0 0) ∧ wx.heap[gS]? = some (.cells sec2 83 (0, 0)))
    case first =>
      skip
      have bN := below_new wc (.cells #[.int .i64 0, .int .i64 0] 95)
      have T2 := T.later bN
      have l0 := cell_at T2.l 1
      have f0 := free_at T2.l 1
      have hlt := lt_at T.l
      replace VS := var_later VS bN
      generalize hgG : wc.heap.size = gG at *
      have T3 := T2.set 1 (.slice (some ⟨gG, 0, none⟩) 1 1) (.slice (some ⟨gS, 0, none⟩) 2 2) (.slice (some ⟨gG, 0, none⟩) 1 1) (.slice none 0 0) rfl
      replace VS := set_far VS (p := ⟨w.heap.size + 1 + 1 + 1 + 1, 1, none⟩) (by have := hS.out; simp; omega) (.slice (some ⟨gG, 0, none⟩) 1 1)
      have HLT := Lib.hid hlt
      clear bN T2 T hlt
      go_wp2
      go_meet
      exact ⟨gG, T3, VS⟩
    case rest =>
      clear T VS
      obtain ⟨gG, T, VS⟩ := hcut
      go_upto_region 5 with (fail)
      go_cut [] from 27 to 30 (fun wx => ∃ gE : Nat, TW w wx (.slice (some ⟨gS, 0, none⟩) 2 2) (.slice (some ⟨gG, 0, none⟩) 1 1) (.slice (some ⟨gE, 0, none⟩) 1 1) ∧ wx.heap[gS]? = some (.cells sec2 83 (0, 0)))
      case first =>
        skip
        have bN := below_new wc (.cells #[.int .i64 1, .int .i64 1, .slice none 0 0] 70)
        have T2 := T.later bN
        have l0 := cell_at T2.l 2
        have f0 := free_at T2.l 2
        have hlt := lt_at T.l
        replace VS := var_later VS bN
        generalize hgE : wc.heap.size = gE at *
        have T3 := T2.set 2 (.slice (some ⟨gE, 0, none⟩) 1 1) (.slice (some ⟨gS, 0, none⟩) 2 2) (.slice (some ⟨gG, 0, none⟩) 1 1) (.slice (some ⟨gE, 0, none⟩) 1 1) rfl
        replace VS := set_far VS (p := ⟨w.heap.size + 1 + 1 + 1 + 1, 2, none⟩) (by have := hS.out; simp; omega) (.slice (some ⟨gE, 0, none⟩) 1 1)
        have HLT := Lib.hid hlt
        clear bN T2 T hlt
        go_wp2
        go_meet
        exact ⟨gE, T3, VS⟩
      case rest =>
        clear T VS
        obtain ⟨gE, T, VS⟩ := hcut
        go_upto_region 6 with (fail)
        go_cut [5] from 31 to 37 (fun v wx => ∃ (gH : Nat) (v3 v5 : Value), v = .pointer (some ⟨gH, 0, none⟩) ∧ TW w wx (.slice (some ⟨gS, 0, none⟩) 2 2) (.slice (some ⟨gG, 0, none⟩) 1 1) (.slice (some ⟨gE, 0, none⟩) 1 1) ∧ wx.heap[gS]? = some (.cells sec2 83 (0, 0)) ∧ wx.heap[gH]? = some (.cells (hcL 2 v3 (.slice none 0 0) v5 false).toArray 52 (0, 0)) ∧ w.heap.size + 4 < gH ∧ TAt wx v3 st2 ∧ TAt wx v5 nd1 ∧ (∀ q, VB v3 2 q → w.heap.size + 4 < q) ∧ (∀ q, VB v5 1 q → w.heap.size + 4 < q))
        case first =>
          skip
          obtain ⟨V0, hV0⟩ : ∃ V0, (wc.alloc (.cells #[.int .i64 0, .int .i64 0, .int .i64 1, .int .i64 1, .int .i64 0, .int .i64 1] 55)).alloc (.cells #[.int .i64 1, .int .i64 0, .int .i64 1] 59) = V0 := ⟨_, rfl⟩
          have b0 : Below wc.heap.size wc V0 := by rw [← hV0]; exact below_step (below_new _ _) (below_new _ _)
          have t3 : TAt V0 (.slice (some ⟨wc.heap.size, 0, none⟩) 2 2) st2 := tat_of (l := st2) (by rw [← hV0]; exact old_at (new_at rfl _) _) rfl (by simp)
          have t5 : TAt V0 (.slice (some ⟨wc.heap.size + 1, 0, none⟩) 1 1) nd1 := tat_of (l := nd1) (by rw [← hV0]; exact new_at (by simp) _) rfl (by simp)
          have s0 : V0.heap.size = wc.heap.size + 1 + 1 := by rw [← hV0]; simp
          obtain ⟨V, hV, hh, bV, ths⟩ := newv (V := V0) (hcL 2 (.slice (some ⟨wc.heap.size, 0, none⟩) 2 2) (.slice none 0 0) (.slice (some ⟨wc.heap.size + 1, 0, none⟩) 1 1) false) zHeld 52 rfl
          have T2 := T.later (below_step b0 bV)
          have VS2 := var_later VS (below_step b0 bV)
          have hlt := Lib.hid (lt_at T.l)
          have t3' := t3.later bV
          have t5' := t5.later bV
          have HV := Lib.hid hV
          have HV0 := Lib.hid hV0
          have szh : (Try.prog.info? 52).map (·.size) = some (hcL 2 (.slice (some ⟨wc.heap.size, 0, none⟩) 2 2) (.slice none 0 0) (.slice (some ⟨wc.heap.size + 1, 0, none⟩) 1 1) false).toArray.size := by simpa using held_size (cs := hcL 2 (.slice (some ⟨wc.heap.size, 0, none⟩) 2 2) (.slice none 0 0) (.slice (some ⟨wc.heap.size + 1, 0, none⟩) 1 1) false) rfl
          have oneh := all_one (hc_held t3 t5 (st := 2) (sh := false)).one
          have S0 := Lib.hid s0
          rw [s0] at hh
          clear T VS b0 bV hV t3 t5 s0 hV0
          go_wp2_with (first
            | refine wpList_bld (by rfl) 52 [(0, .const (.int .i64 1)), (1, .tmp 34), (3, .tmp 36), (4, .const (.int .u8 2))] _ _ (by rfl) (by rfl) (run_hc _ _ _ _ _ _ _) ?_
            | (rw [HV0.out]; refine wpList_new (by rfl) 52 (.agg zHeld) zHeld (by kernel_rfl) rfl (by rfl) ?_)
            | (refine wpList_store_mid rfl 52 (.tmp 5) (.tmp 37) (by rfl) V0.heap.size 0 (hcL 2 (.slice (some ⟨wc.heap.size, 0, none⟩) 2 2) (.slice none 0 0) (.slice (some ⟨wc.heap.size + 1, 0, none⟩) 1 1) false).toArray (by rfl) (by rfl) ths szh oneh ?_; rw [HV.out])
            | fail)
          go_meet
          exact ⟨V0.heap.size, _, _, rfl, T2, VS2, by rw [S0.out]; exact hh, by have := hlt.out; have := S0.out; omega, t3', t5', fun q hq => by obtain ⟨_, h⟩ := hq; cases h; have := hlt.out; show w.heap.size + 4 < wc.heap.size; omega, fun q hq => by obtain ⟨_, h⟩ := hq; cases h; have := hlt.out; show w.heap.size + 4 < wc.heap.size + 1; omega⟩
        case rest =>
          clear T VS
          obtain ⟨gH, v3, v5, rfl, T, VS, HH, hgH, t3, t5, d3, d5⟩ := hcut
          go_upto_region 7 with (fail)
          obtain ⟨L, hL⟩ : ∃ L : List Value, [.slice (some ⟨gS, 0, none⟩) 2 2, .slice (some ⟨gG, 0, none⟩) 1 1, .slice (some ⟨gE, 0, none⟩) 1 1, .slice none 0 0, .int .i64 1, .int .i64 1, .int .i64 9, .int .i64 1, .int .i64 1, .int .i64 1, .int .i64 1] = L := ⟨_, rfl⟩
          have TL : wc.heap[w.heap.size + 1 + 1 + 1 + 1]? = some (.cells L.toArray 29 (0, 0)) := by rw [← hL]; exact T.l
          have FL : LayF L 2 1 1 9 (some ⟨gS, 0, none⟩) 2 (some ⟨gG, 0, none⟩) 1 := by rw [← hL]; exact ⟨rfl, rfl, rfl, rfl, rfl⟩
          have oneL : ∀ u ∈ L, u.oneCell' = true := by rw [← hL]; intro u hu; simp at hu; rcases hu with rfl | rfl | rfl | rfl | rfl | rfl | rfl <;> rfl
          have B := T.bel
          have z0 := T.z0
          have z1 := T.z1
          have z2 := T.z2
          have szL := lay_size FL.len
          have szH : (Try.prog.info? 52).map (·.size) = some (hcL 2 v3 (.slice none 0 0) v5 false).length := held_size rfl
          have hrl : rowL 0#32 (decide ((9 : Int) < 0)) (List.replicate 24 0) 24 = List.replicate 24 1 := by decide +kernel
          have HI := (newI_f.withIn_ 0#32 2#32 0#32 1#32).with_ (f := rowL 0#32 (decide ((9 : Int) < 0)) (List.replicate 24 0) 24) (rowL_len _ _ _ _)
          obtain ⟨M, hM⟩ : ∃ M, withFree (withIn newI 0#32 2#32 0#32 1#32) (rowL 0#32 (decide ((9 : Int) < 0)) (List.replicate 24 0) 24) = M := ⟨_, rfl⟩
          rw [hM] at HI
          rw [hrl] at HI
          have HM := Lib.hid hM
          have szM := img_size HI.len
          have hgS := hS.out
          clear T hL hM hrl hS
          refine wp_region_held_drew (S := (fun w' => w'.rangeAt (w.heap.size + 1 + 1 + 1 + 1) 0 L ∧ w'.rangeAt gH 0 (hcL 2 v3 (.slice none 0 0) v5 false))) (by kernel_rfl) ?_ (fun hHeld => ?_)
          · exact ⟨range_of TL, range_of HH⟩
          have bd : Below wc.heap.size wc wc.drew := (Below.refl _ wc).drew
          replace TL := var_later TL bd
          replace HH := var_later HH bd
          replace VS := var_later VS bd
          replace z0 := var_later z0 bd
          replace z1 := var_later z1 bd
          replace z2 := var_later z2 bd
          replace t3 := t3.later bd
          replace t5 := t5.later bd
          replace B := below_step B bd
          clear bd
          generalize wc.drew = V at *
          refine wpAnyH_take (i := 0) (v := .agg (L : List Value).toArray) rfl (by kernel_rfl) (by kernel_rfl) (by kernel_rfl) (fun _ _ _ h => h) (yieldsIf_load_mid (by kernel_rfl) 29 (.tmp 4) (by kernel_rfl) (w.heap.size + 1 + 1 + 1 + 1) 0 (by kernel_rfl) L _ (fun w' h => h.1) (by first | exact Try.underlying29) rfl (by first | assumption | (simp only [*]; kernel_rfl))) (by assumption) ?_
          try simp only [List.getElem_toArray, List.getElem_cons_succ, List.getElem_cons_zero, Act.put, List.setIfInBounds_toArray, List.set_cons_zero, List.set_cons_succ]
          refine wpAnyH_take (i := 1) (v := .agg (L : List Value).toArray) rfl (by kernel_rfl) (by kernel_rfl) (by kernel_rfl) (fun _ _ _ h => h) (yieldsIf_load_mid (by kernel_rfl) 29 (.tmp 4) (by kernel_rfl) (w.heap.size + 1 + 1 + 1 + 1) 0 (by kernel_rfl) L _ (fun w' h => h.1) (by first | exact Try.underlying29) rfl (by first | assumption | (simp only [*]; kernel_rfl))) (by assumption) ?_
          try simp only [List.getElem_toArray, List.getElem_cons_succ, List.getElem_cons_zero, Act.put, List.setIfInBounds_toArray, List.set_cons_zero, List.set_cons_succ]
          refine wpAnyH_take (i := 3) (v := ?_) rfl (by kernel_rfl) (by kernel_rfl) (by kernel_rfl) (fun _ _ _ h => h) (Or.inl ⟨by kernel_rfl, ?_⟩) (by assumption) ?_
          rotate_left
          · intro w hSw
            try dsimp only at hSw
            go_simp
            try with_reducible rfl
          simp only [List.getElem_toArray, List.getElem_cons_succ, List.getElem_cons_zero, Act.put, List.setIfInBounds_toArray, List.set_cons_zero, List.set_cons_succ]
          refine wpAnyH_take (i := 5) (v := .agg ((hcL 2 v3 (.slice none 0 0) v5 false) : List Value).toArray) rfl (by kernel_rfl) (by kernel_rfl) (by kernel_rfl) (fun _ _ _ h => h) (yieldsIf_load_mid (by kernel_rfl) 52 (.tmp 5) (by kernel_rfl) (gH) 0 (by kernel_rfl) (hcL 2 v3 (.slice none 0 0) v5 false) _ (fun w' h => h.2) (by first | exact Try.underlying52) rfl (by first | assumption | (simp only [*]; kernel_rfl))) (by assumption) ?_
          try simp only [List.getElem_toArray, List.getElem_cons_succ, List.getElem_cons_zero, Act.put, List.setIfInBounds_toArray, List.set_cons_zero, List.set_cons_succ]
          clear hHeld
          refine wpAnyH_ready (rs := [2]) (by kernel_rfl) (by simp) ?_
          refine AllReadyH.cons rfl (fun K hK => ?_) AllReadyH.nil
          refine Node.wp_fn 38 [] _ [] (by rfl) (by rfl) (enters Try.func38 (by kernel_rfl) rfl) (refNew_c V) ?_
          rintro e V' ⟨bF, rfl⟩
          refine ⟨_, rfl, ?_⟩
          replace TL := var_later TL bF
          replace HH := var_later HH bF
          replace VS := var_later VS bF
          replace z0 := var_later z0 bF
          replace z1 := var_later z1 bF
          replace z2 := var_later z2 bF
          replace t3 := t3.later bF
          replace t5 := t5.later bF
          replace B := below_step B bF
          clear bF
          generalize V' = V at *
          refine hK.out _ _ ⟨range_of TL, range_of HH⟩ (fun _ => ?_)
          clear hK K
          try simp only [List.getElem_toArray, List.getElem_cons_succ, List.getElem_cons_zero, Act.put, List.setIfInBounds_toArray, List.set_cons_zero, List.set_cons_succ]
          refine wpAnyH_ready (rs := [4]) (by kernel_rfl) (by simp) ?_
          refine AllReadyH.cons rfl (fun K hK => ?_) AllReadyH.nil
          refine Node.wp_fn 17 [.tmp 39, .tmp 40, .tmp 41] _ [.agg L.toArray, .agg newI.toArray, .agg (inV 0#32 2#32 0#32 1#32)] (by rfl) (by rfl) (enters Try.func17 (by kernel_rfl) rfl) (refTake_c L newI 2 1 1 9 65535 _ _ 2 1 (List.replicate 24 0) 0#32 0#32 0#32 0#32 0#32 2#32 0#32 1#32 V FL newI_f) ?_
          rintro e V' ⟨bF, he⟩
          rw [HM.out] at he
          subst he
          refine ⟨_, rfl, ?_⟩
          replace TL := var_later TL bF
          replace HH := var_later HH bF
          replace VS := var_later VS bF
          replace z0 := var_later z0 bF
          replace z1 := var_later z1 bF
          replace z2 := var_later z2 bF
          replace t3 := t3.later bF
          replace t5 := t5.later bF
          replace B := below_step B bF
          clear bF
          generalize V' = V at *
          refine hK.out _ _ ⟨range_of TL, range_of HH⟩ (fun _ => ?_)
          clear hK K
          try simp only [List.getElem_toArray, List.getElem_cons_succ, List.getElem_cons_zero, Act.put, List.setIfInBounds_toArray, List.set_cons_zero, List.set_cons_succ]
          have oneH := all_one (hc_held t3 t5 (st := 2) (sh := false)).one
          
          obtain ⟨V1, e1, X1, B1, far1, th1⟩ := fill_new L z0 (by rw [FL.len]; rfl) B (Nat.le_refl _)
          refine wpAnyH_ready (rs := [6]) (by kernel_rfl) (by simp) ?_
          refine AllReadyH.cons rfl (fun K hK => ?_) AllReadyH.nil
          refine wp_store_mid 29 (.tmp 0) (.tmp 38) (by rfl) w.heap.size 0 L.toArray (by rfl) (by rfl) th1 (by simpa using szL) (all_one oneL) ?_
          rw [e1]
          have k1 := keep_cells (g := w.heap.size) L.toArray.toList 0 (W := V)
          rw [e1] at k1
          replace t3 := slice_keep t3 k1 (fun q hq => by have := d3 q hq; omega)
          replace t5 := slice_keep t5 k1 (fun q hq => by have := d5 q hq; omega)
          replace TL := (far1 _ (by omega)).trans TL
          replace HH := (far1 _ (by omega)).trans HH
          replace VS := (far1 _ (by omega)).trans VS
          replace z1 := (far1 _ (by omega)).trans z1
          replace z2 := (far1 _ (by omega)).trans z2
          refine hK.out _ _ ⟨range_of TL, range_of HH⟩ (fun _ => ?_)
          clear hK K
          try simp only [List.getElem_toArray, List.getElem_cons_succ, List.getElem_cons_zero, Act.put, List.setIfInBounds_toArray, List.set_cons_zero, List.set_cons_succ]
          obtain ⟨V2, e2, X2, B2, far2, th2⟩ := fill_new M z1 (by rw [HI.len]; rfl) B1 (by omega)
          refine wpAnyH_ready (rs := [7]) (by kernel_rfl) (by simp) ?_
          refine AllReadyH.cons rfl (fun K hK => ?_) AllReadyH.nil
          refine wp_store_mid 35 (.tmp 1) (.tmp 42) (by rfl) (w.heap.size + 1) 0 M.toArray (by rfl) (by rfl) th2 (by simpa using szM) (all_one HI.one) ?_
          rw [e2]
          have k2 := keep_cells (g := (w.heap.size + 1)) M.toArray.toList 0 (W := V1)
          rw [e2] at k2
          replace t3 := slice_keep t3 k2 (fun q hq => by have := d3 q hq; omega)
          replace t5 := slice_keep t5 k2 (fun q hq => by have := d5 q hq; omega)
          replace TL := (far2 _ (by omega)).trans TL
          replace HH := (far2 _ (by omega)).trans HH
          replace VS := (far2 _ (by omega)).trans VS
          replace z2 := (far2 _ (by omega)).trans z2
          replace X1 := (far2 _ (by omega)).trans X1
          refine hK.out _ _ ⟨range_of TL, range_of HH⟩ (fun _ => ?_)
          clear hK K
          try simp only [List.getElem_toArray, List.getElem_cons_succ, List.getElem_cons_zero, Act.put, List.setIfInBounds_toArray, List.set_cons_zero, List.set_cons_succ]
          obtain ⟨V3, e3, X3, B3, far3, th3⟩ := fill_new (hcL 2 v3 (.slice none 0 0) v5 false) z2 rfl B2 (by omega)
          refine wpAnyH_ready (rs := [8]) (by kernel_rfl) (by simp) ?_
          refine AllReadyH.cons rfl (fun K hK => ?_) AllReadyH.nil
          refine wp_store_mid 52 (.tmp 2) (.tmp 43) (by rfl) (w.heap.size + 1 + 1) 0 (hcL 2 v3 (.slice none 0 0) v5 false).toArray (by rfl) (by rfl) th3 (by simpa using szH) oneH ?_
          rw [e3]
          have k3 := keep_cells (g := (w.heap.size + 1 + 1)) (hcL 2 v3 (.slice none 0 0) v5 false).toArray.toList 0 (W := V2)
          rw [e3] at k3
          replace t3 := slice_keep t3 k3 (fun q hq => by have := d3 q hq; omega)
          replace t5 := slice_keep t5 k3 (fun q hq => by have := d5 q hq; omega)
          replace TL := (far3 _ (by omega)).trans TL
          replace HH := (far3 _ (by omega)).trans HH
          replace VS := (far3 _ (by omega)).trans VS
          replace X1 := (far3 _ (by omega)).trans X1
          replace X2 := (far3 _ (by omega)).trans X2
          refine hK.out _ _ ⟨range_of TL, range_of HH⟩ (fun _ => ?_)
          clear hK K
          try simp only [List.getElem_toArray, List.getElem_cons_succ, List.getElem_cons_zero, Act.put, List.setIfInBounds_toArray, List.set_cons_zero, List.set_cons_succ]
          refine wpAnyH_done (by kernel_rfl) ?_ _
          clear e1 e2 e3
          go_wp2_with fail
          refine bodyPost_ret (res_three (L := L) (M := M) (H := hcL 2 v3 (.slice none 0 0) v5 false) rfl rfl rfl rfl X1 X2 X3 FL.len HI.len rfl) rfl ?_
          refine ⟨B3, L, M, v3, v5, _, 2, _, 1, rfl, FL, ⟨_, 2, rfl, Nat.le_refl _, by simp [maxLen], .inr ⟨gS, 0, rfl, lt_at VS, fun k z hk => ?_⟩⟩, HI, oneL, t3, t5⟩
          match k, hk with
          | 0, hk => cases hk; exact (cell_at VS 0).trans rfl
          | 1, hk => cases hk; exact (cell_at VS 11).trans rfl
          | k + 2, hk => simp at hk
end Go.Proofs.Ytkmioplegjeopaa
