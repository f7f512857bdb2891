/- Link, in company. Nothing that was there is turned. -/
import Derived.Test.YtlanlkpamnoekaaDoorZD16
import Derived.Conc.Beside
import Derived.Test.YtlanlkpamnoekaaDoorZD15
set_option linter.unusedSimpArgs false
set_option linter.unusedVariables false
namespace Go.Proofs.YtlanlkpamnoekaaDoor.Lk
open Go Go.Conc Go.RowKit Rf Mem Bv Crc Str Bits
set_option maxRecDepth 100000

/-- From wakes' return on the frame comes to its end, true in slot r; nothing is turned. -/
def Cont (F : FuncId) (r : Nat) (fr : Frame) : Prop := ∀ (T : Frame → List Frame → World → Prop) (fs : List Frame) (w : World),
  (∀ (a : Act) (todo : List Item) (w' : World), a.defers = [] → a.tmps[r]? = some (.bool true) → w'.heap = w.heap → w'.os = w.os → w'.output = w.output → T { (base F).at a todo with mode := .returning } fs w') → Wins Tryd.prog T (fr.finish (.bool true)) fs w
/-- The law calls wakes; what it tells is what wakes tells. -/
def AtWakes (F : FuncId) (r : Nat) (G0 : World) (f : Frame) (fs : List Frame) (W : World) : Prop := ∃ fr, fs = [fr] ∧ f = Frame.enter Tryd.prog 10 #[] .normal ∧ Cont F r fr ∧ Tops W ∧ Under G0.heap.size G0 W
theorem aim_wakes (F : FuncId) (r : Nat) (G0 : World) : Aim (AtWakes F r G0) :=
  ⟨fun _ _ _ τ d ⟨fr, h1, h2, h3, h4, h5⟩ => ⟨fr, h1, h2, h3, ⟨h4.c0, h4.c1, h4.sz⟩, h5.re τ d⟩, fun f fs w ⟨fr, _, h2, _⟩ ch hm => by
    rw [h2] at hm
    simp [Frame.enter] at hm⟩
/-- The law's end. -/
def DoneF (F : FuncId) (r : Nat) (f : Frame) : Prop := ∃ (a : Act) (todo : List Item), f = { (base F).at a todo with mode := .returning } ∧ a.defers = [] ∧ a.tmps[r]? = some (.bool true)
def AtDone (F : FuncId) (r : Nat) (G0 : World) (f : Frame) (fs : List Frame) (W : World) : Prop := fs = [] ∧ DoneF F r f ∧ Under G0.heap.size G0 W
theorem aim_done (F : FuncId) (r : Nat) (G0 : World) : Aim (AtDone F r G0) :=
  ⟨fun _ _ _ τ d ⟨h1, h2, h3⟩ => ⟨h1, h2, h3.re τ d⟩, fun f fs w ⟨_, ⟨a, todo, h2, _⟩, _⟩ ch hm => by rw [h2] at hm; cases hm⟩

theorem done_run {F : FuncId} {r : Nat} {fr : Frame} {A : World} {m : Machine} {t : Trace} (hc : NF Tryd.prog fr) (hC : Cont F r fr) (hT : Tops A) (h : St (QL Tryd.prog) (Frame.enter Tryd.prog 10 #[] .normal) [fr] A m t) :
    Run Tryd.prog m t (To (QL Tryd.prog) fun f' cs' A' => cs' = [] ∧ DoneF F r f' ∧ Below A.heap.size A A') := by
  refine (wakes_comp hc hT h).bind ?_
  rintro m1 t1 ⟨f1, cs1, A1, ⟨rfl, rfl, b1⟩, hSt⟩
  refine (lone_run0 (bad := 14) (cs := []) (fun Z => fit Z) (aim_done F r (scrub (Zset (fun _ => False) A1) A1)) (fs := []) ⟨by simp, .inl (hc.finish _)⟩ (fun τ d => ?_) (by simpa using hSt)).mono ?_
  · exact hC _ [] _ fun a todo w' h1 h2 h3 h4 h5 => ⟨rfl, ⟨a, todo, rfl, h1, h2⟩, ⟨h4, h5, by rw [h3]; exact Nat.le_refl _, fun k _ => by rw [h3]; rfl⟩⟩
  · rintro _ _ ⟨f', cs', A', ⟨fs', G', rfl, ⟨rfl, hD, hU⟩, _, hR', _, ht', hV'⟩, hSt3⟩
    refine ⟨_, _, A', ⟨rfl, hD, ?_⟩, hSt3⟩
    have hU2 := hU
    rw [scrub_size] at hU2
    have b3 := hU2.lift hR' ht' (V := fun _ => False) (fun i hi _ => hV' i hi) fun _ h => h.elim
    exact b1.trans (b3.mono b1.size)

/-- From where a lone stretch leads to wakes. -/
theorem wakes_run {F : FuncId} {r : Nat} {f : Frame} {A : World} {m : Machine} {t : Trace} (hf : NF Tryd.prog f) (hw : ∀ τ d, Wins Tryd.prog (AtWakes F r (scrub (Zset (fun _ => False) A) A)) f [] (re (scrub (Zset (fun _ => False) A) A) τ d)) (h : St (QL Tryd.prog) f [] A m t) :
    Run Tryd.prog m t (To (QL Tryd.prog) fun f' cs' A' => cs' = [] ∧ DoneF F r f' ∧ Below A.heap.size A A') := by
  refine (lone_run0 (bad := 14) (cs := []) (fun Z => fit Z) (aim_wakes F r _) (fs := []) ⟨by simp, .inl hf⟩ hw (by simpa using h)).bind ?_
  rintro m1 t1 ⟨f1, cs1, A1, ⟨fs1, G1, rfl, ⟨fr, rfl, rfl, hC, hT, hU⟩, hgood, hR, hsz, ht, hV⟩, hSt⟩
  have b1 : Below A.heap.size A A1 := by
    rw [scrub_size] at hU
    exact hU.lift hR ht (V := fun _ => False) (fun i hi _ => hV i hi) fun _ h => h.elim
  refine (done_run (hgood.1 _ (List.mem_singleton.2 rfl)) hC ((Sees.up hR).tops hT) (by simpa using hSt)).mono ?_
  rintro m2 t2 ⟨f2, cs2, A2, ⟨rfl, hD, b2⟩, hSt2⟩
  exact ⟨_, _, A2, ⟨rfl, hD, b1.trans (b2.mono b1.size)⟩, hSt2⟩

/-- The start: goroutine 0 alone. -/
theorem start_st (f : Frame) (A : World) : St (QL Tryd.prog) f [] A (crowd #[Conc.G f []] A none) #[] :=
  ⟨_, _, none, rfl, rfl, _, 0, leavers_one Tryd.prog _, past_nil, rfl⟩

/-- ████ From a run to the law's end: it ends well. ████ -/
theorem law_ends {F : FuncId} {fn : Func} {r : Nat} {f : Frame} {A : World} (hfn : Tryd.prog.funcs[F]? = some fn) (hr : fn.results = #[.tmp r]) (hk : 2 ≠ F)
    (h : ∀ m t, St (QL Tryd.prog) f [] A m t → Run Tryd.prog m t (To (QL Tryd.prog) fun f' cs' A' => cs' = [] ∧ DoneF F r f' ∧ Below A.heap.size A A')) :
    ∃ M last o w' t', runNT Tryd.prog (M + 1) (crowd #[Conc.G f []] A none) #[] = (.ended o w', t') ∧ runN Tryd.prog M (crowd #[Conc.G f []] A none) = .next last ∧ step Tryd.prog last = .ended o w' ∧ Conc.Good Tryd.prog (fun v W' => v = .bool true ∧ Below A.heap.size A W') last o w' t' := by
  obtain ⟨N, m1, t1, h1, f1, cs1, A1, ⟨rfl, ⟨a, todo, rfl, hd, hv⟩, hb⟩, μ, gs, sl, rfl, h0, q, B, hL, hP, _⟩ := h _ _ (start_st f A)
  have hstep : ∀ w : World, stepG Tryd.prog true (Conc.G { (base F).at a todo with mode := .returning } []) w = .ended (.done (.bool true)) w #[] := by
    intro w
    have h2 : a.tmps[r]?.getD undef = .bool true := by rw [hv]; rfl
    simp [Conc.G, stepG, unwind, doReturn, results, Frame.at, base, hfn, hr, hd, h2, hk, seen, GStep.after]
  obtain ⟨M, last, o, w', t', e1, e2, e3, e4⟩ := beside_ends (P := Tryd.prog) (Shun := fun _ => False) (B := B) (D := fun _ _ _ => False) (Post := fun v W' => v = .bool true ∧ Below A.heap.size A W') (sl := sl) (n := 0) (w := A1) (t := t1) (fun _ _ _ h => h.elim) h0 hL hP
    (fun w₁ ⟨d, hw⟩ => ⟨rfl, .bool true, #[], by rw [hstep], by simp, rfl, by rw [hw]; exact below_at_d hb d⟩)
  refine ⟨N + M, last, o, w', t', ?_, ?_, e3, e4⟩
  · rw [Nat.add_assoc, runNT_add, h1]
    exact e1
  · have h1' : runN Tryd.prog N (crowd #[Conc.G f []] A none) = .next (crowd gs A1 sl) := by rw [← runNT_fst _ _ _ #[], h1]
    rw [runN_add, h1']
    exact e2
end Go.Proofs.YtlanlkpamnoekaaDoor.Lk
namespace Go.Proofs.YtlanlkpamnoekaaDoor.Lk
open Go Go.Conc Go.RowKit Rf Mem Bv Crc Str Bits
set_option maxRecDepth 100000

theorem wanted_none {o : Oper} {y : Nat → Option Bool} (h : o.guard = none) : Region.wanted o y = true := by rw [Region.wanted, h]
theorem wanted_some {ops : Array Oper} {o : Oper} {tm : Array Value} {g d : Nat} {b : Bool} (h : o.guard = some (g, b)) (hd : (ops[g]?.bind (·.dst)) = some d) (hv : tm[d]? = some (.bool b)) : Region.wanted o (yielded ops tm) = true := by
  rw [Region.wanted, h]
  simp [yielded, hd, hv]
theorem cont_of {F : FuncId} {r d i : Nat} {ops : Array Oper} {rest : List Nat} {a : Act} {k : List Item} (hdst : (ops[i]?.bind (·.dst)) = some d) (h : ∀ w, wpOps Tryd.prog ops (nrm fun a' w' => a'.defers = [] ∧ a'.tmps[r]? = some (.bool true) ∧ w' = w) rest (a.put (some d) (.bool true)) w) :
    Cont F r ((base F).at a (.inRegion ops (i :: rest) :: .code .ret :: k)) := by
  intro T fs w hT
  rw [Frame.finish_at, hdst]
  refine Wins.ops rest [] (by simp) (h w) fun a' w' ⟨h1, h2, h3⟩ => Wins.regionEnd (Wins.ret (Wins.stop ?_))
  subst h3
  exact hT a' _ w' h1 h2 rfl rfl rfl
theorem cont_two {F : FuncId} {r d i j : Nat} {ops : Array Oper} {o : Oper} {a : Act} {k : List Item} (hdst : (ops[i]?.bind (·.dst)) = some d) (ho : ops[j]? = some o) (hop : o.op = .assign (.tmp d)) (hdo : o.dst = some r) (hg : o.guard = none) (hd : a.defers = []) (hsz : d < a.tmps.size) (hr : r < a.tmps.size) :
    Cont F r ((base F).at a (.inRegion ops [i, j] :: .code .ret :: k)) := by
  refine cont_of hdst fun w => ?_
  simp only [wpOps, ho]
  rw [if_pos (wanted_none hg)]
  refine .inl ?_
  have he : (execOp (a.put (some d) (.bool true)).eval o).run Tryd.prog w = .ok (.value (.bool true)) w := by
    unfold execOp
    simp [hop, Act.eval, Act.put, hsz]
  refine Node.wp_val _ he ?_
  rw [hdo]
  refine ⟨hd, ?_, rfl⟩
  simp [Act.put, hr]
/-- The call of wakes. -/
theorem wins_wakes {T : Frame → List Frame → World → Prop} {b : Frame} {a : Act} {ops : Array Oper} {i : Nat} {rest : List Nat} {k : List Item} {fs : List Frame} {w : World} {o : Oper} {ts : Array TypeId} (ho : ops[i]? = some o) (hw : Region.wanted o (yielded ops a.tmps) = true) (hop : o.op = .call { callee := .value (.func 10), args := #[], argTypes := ts })
    (h : T (Frame.enter Tryd.prog 10 #[] .normal) (b.at a (.inRegion ops (i :: rest) :: k) :: fs) w) : Wins Tryd.prog T (b.at a (.inRegion ops (i :: rest) :: k)) fs w := by
  have hcall : ∀ args w, (callFunc 10 args).run Tryd.prog w = .ok (.enter 10 args) w := enters Tryd.func10 (by kernel_rfl) rfl
  refine Wins.call ho hw (g := 10) (args := #[]) (w' := w) ?_ (Wins.stop h)
  unfold execOp
  simp [hop, resolve, invoke, Act.eval, Deferred.ofValue, hcall]
theorem AtWakes.mk {F : FuncId} {r : Nat} {G0 W : World} {fr : Frame} (hC : Cont F r fr) (hT : Tops W) (hb : Below G0.heap.size G0 W) : AtWakes F r G0 (Frame.enter Tryd.prog 10 #[] .normal) [fr] W := ⟨fr, rfl, rfl, hC, hT, .of hb⟩
theorem Wins.mono {T T' : Frame → List Frame → World → Prop} {f : Frame} {fs : List Frame} {w : World} (h : Wins Tryd.prog T f fs w) (hT : ∀ f fs w, T f fs w → T' f fs w) : Wins Tryd.prog T' f fs w := by
  obtain ⟨n, g, gs, x, h1, h2⟩ := h
  exact ⟨n, g, gs, x, h1, hT _ _ _ h2⟩
theorem AtWakes.blind {F : FuncId} {r : Nat} {G : World} {τ : Tape} {d : Nat} {f : Frame} {fs : List Frame} {W : World} (h : AtWakes F r (re G τ d) f fs W) : AtWakes F r G f fs W := by
  obtain ⟨fr, h1, h2, h3, h4, h5⟩ := h
  exact ⟨fr, h1, h2, h3, h4, ⟨h5.os, h5.output, h5.size, h5.block⟩⟩
end Go.Proofs.YtlanlkpamnoekaaDoor.Lk
namespace Go.Proofs.YtlanlkpamnoekaaDoor
open List renaming getElem_toArray → zA, getElem_cons_succ → zS, getElem_cons_zero → zZ, setIfInBounds_toArray → zP, set_cons_zero → zQ, set_cons_succ → zR
open Go Go.RowKit Rf Mem Bv Crc Str Lk
set_option maxRecDepth 100000
attribute [local go_sem ↓] run_max2 run_min2
def lit104 (j : Nat → Value) : List Value := [j 0, j 1, j 2, j 3, j 4, j 5, j 6, j 7, j 8, j 9, j 10, j 11, j 12, j 13, j 14, j 15, j 16, j 17, j 18, j 19, j 20, j 21, j 22, j 23, j 24, j 25, j 26, j 27, j 28, j 29, j 30, j 31, j 32, j 33, j 34, j 35, j 36, j 37, j 38, j 39, j 40, j 41, j 42, j 43, j 44, j 45, j 46, j 47, j 48, j 49] ++ ([j 50, j 51, j 52, j 53, j 54, j 55, j 56, j 57, j 58, j 59, j 60, j 61, j 62, j 63, j 64, j 65, j 66, j 67, j 68, j 69, j 70, j 71, j 72, j 73, j 74, j 75, j 76, j 77, j 78, j 79, j 80, j 81, j 82, j 83, j 84, j 85, j 86, j 87, j 88, j 89, j 90, j 91, j 92, j 93, j 94, j 95, j 96, j 97, j 98, j 99] ++ ([j 100, j 101, j 102, j 103]))
theorem lit104_eq (j : Nat → Value) : (List.range 104).map j = lit104 j := by kernel_rfl
theorem Sl.lit104 {a : Act} {l : List (Nat × Value)} (h : Sl a 104 l) : ∃ j : Nat → Value, a = ⟨(lit104 j).toArray, []⟩ ∧ ∀ p ∈ l, j p.1 = p.2 := by
  obtain ⟨j, h1, h2⟩ := h.letters
  exact ⟨j, by rw [h1, lit104_eq], h2⟩

noncomputable def bodyD : Code := Tryd.f6.body.getD .skip
noncomputable def rgD (k : Nat) : Code := nthSeq k bodyD

noncomputable def opsD2 : Array Oper := match rgD 1 with | .seq _ (.cond _ (.seq (.region _ o _) _) _) => o | _ => #[]
noncomputable def rD1 : Code := match rgD 1 with | .seq r _ => r | _ => .skip
noncomputable def opsD14 : Array Oper := match rgD 7 with | .region _ o _ => o | _ => #[]
theorem bodyD_eq : bodyD = .seq (rgD 0) (.seq (rgD 1) (.seq (rgD 2) (.seq (rgD 3) (.seq (rgD 4) (.seq (rgD 5) (.seq (rgD 6) (.seq (rgD 7) .ret))))))) := rfl
theorem rgD1_eq : rgD 1 = .seq rD1 (.cond (.tmp 20) (.seq (.region 2 opsD2 false) .ret) .skip) := rfl
theorem rgD7_eq : rgD 7 = .region 14 opsD14 false := rfl
theorem sizeD2 : List.range opsD2.size = [0, 1] := by kernel_rfl
theorem sizeD14 : List.range opsD14.size = [0, 1, 2, 3, 4, 5, 6, 7, 8, 9, 10, 11, 12, 13, 14, 15, 16, 17, 18, 19] ++ [20, 21, 22] := by kernel_rfl
theorem opsD14_from (k n : Nat) : ∀ j, j < ((opsD14.toList.drop k).take n).length → ((opsD14.toList.drop k).take n)[j]? = opsD14[k + j]? := by
  intro j hj
  simp only [List.length_take] at hj
  rw [List.getElem?_take, if_pos (by omega), List.getElem?_drop]
  simp

theorem ld0 (a : Act) (tk s1 s2 : Int) (hS : Sl a 104 [(0, .int .i64 tk), (1, .int .u8 s1), (2, .int .u8 s2)]) (w : World) : (rgD 0).wp Tryd.prog (nrm fun a' w' => Sl a' 104 [(0, .int .i64 tk), (1, .int .u8 s1), (2, .int .u8 s2), (6, .bool false)] ∧ w' = w) a w := by
  obtain ⟨j, rfl, hj⟩ := hS.lit104
  have h0 : j 0 = .int .i64 tk := hj (0, _) (by simp)
  have h1 : j 1 = .int .u8 s1 := hj (1, _) (by simp)
  have h2 : j 2 = .int .u8 s2 := hj (2, _) (by simp)
  clear hj hS
  unfold rgD bodyD
  simp only [Tryd.f6, Option.getD_some, nthSeq, lit104, List.cons_append, List.nil_append, h0, h1, h2]
  go_wp2
  exact ⟨⟨rfl, rfl, by simp⟩, rfl⟩
theorem ld1 (a : Act) (tk s1 s2 : Int) (b : Bool) (hb : b = (decide (tk < 1) || decide (50 < tk))) (hS : Sl a 104 [(0, .int .i64 tk), (1, .int .u8 s1), (2, .int .u8 s2), (6, .bool false)]) (w : World) : rD1.wp Tryd.prog (nrm fun a' w' => Sl a' 104 [(0, .int .i64 tk), (1, .int .u8 s1), (2, .int .u8 s2), (6, .bool false), (20, .bool b)] ∧ w' = w) a w := by
  obtain ⟨j, rfl, hj⟩ := hS.lit104
  have h0 : j 0 = .int .i64 tk := hj (0, _) (by simp)
  have h1 : j 1 = .int .u8 s1 := hj (1, _) (by simp)
  have h2 : j 2 = .int .u8 s2 := hj (2, _) (by simp)
  have h6 : j 6 = .bool false := hj (6, _) (by simp)
  clear hj hS
  unfold rD1 rgD bodyD
  simp only [Tryd.f6, Option.getD_some, nthSeq, lit104, List.cons_append, List.nil_append, h0, h1, h2, h6]
  by_cases h : tk < 1
  · have d1 : decide (tk < 1) = true := decide_eq_true h
    rw [d1, Bool.true_or] at hb
    subst hb
    go_wp2
    exact ⟨⟨rfl, rfl, by simp⟩, rfl⟩
  · have d1 : decide (tk < 1) = false := decide_eq_false h
    rw [d1, Bool.false_or] at hb
    by_cases h2 : 50 < tk
    · have d2 : decide (50 < tk) = true := decide_eq_true h2
      rw [d2] at hb
      subst hb
      go_wp2
      exact ⟨⟨rfl, rfl, by simp⟩, rfl⟩
    · have d2 : decide (50 < tk) = false := decide_eq_false h2
      rw [d2] at hb
      subst hb
      go_wp2
      exact ⟨⟨rfl, rfl, by simp⟩, rfl⟩
theorem ld2 (a : Act) (tk s1 s2 : Int) (hS : Sl a 104 [(0, .int .i64 tk), (1, .int .u8 s1), (2, .int .u8 s2), (6, .bool false)]) (w : World) : (rgD 2).wp Tryd.prog (nrm fun a' w' => ∃ g7, Sl a' 104 [(0, .int .i64 tk), (1, .int .u8 s1), (2, .int .u8 s2), (6, .bool false), (7, .pointer (some ⟨g7, 0, none⟩))] ∧ LY w' g7 y1 tk ∧ Below w.heap.size w w') a w := by
  obtain ⟨j, rfl, hj⟩ := hS.lit104
  have h0 : j 0 = .int .i64 tk := hj (0, _) (by simp)
  have h1 : j 1 = .int .u8 s1 := hj (1, _) (by simp)
  have h2 : j 2 = .int .u8 s2 := hj (2, _) (by simp)
  have h6 : j 6 = .bool false := hj (6, _) (by simp)
  clear hj hS
  unfold rgD bodyD
  simp only [Tryd.f6, Option.getD_some, nthSeq, lit104, List.cons_append, List.nil_append, h0, h1, h2, h6]
  have b1 := below_new w (.cells (lyc y1 tk) 29)
  have Y : LY (w.alloc (.cells (lyc y1 tk) 29)) w.heap.size y1 tk := ⟨new_at rfl _⟩
  go_wp2
  exact ⟨_, ⟨rfl, rfl, by simp⟩, Y, b1⟩
set_option maxHeartbeats 1000000 in
theorem ld3 (a : Act) (tk s1 s2 : Int) (g7 : Nat) (n1 : BitVec 8) (hn1 : s1 = n1.toNat) (hS : Sl a 104 [(0, .int .i64 tk), (1, .int .u8 s1), (2, .int .u8 s2), (6, .bool false), (7, .pointer (some ⟨g7, 0, none⟩))]) (w : World) (hT : Tops w) : (rgD 3).wp Tryd.prog (nrm fun a' w' => ∃ g8, Sl a' 104 [(0, .int .i64 tk), (1, .int .u8 s1), (2, .int .u8 s2), (6, .bool false), (7, .pointer (some ⟨g7, 0, none⟩)), (8, .pointer (some ⟨g8, 0, none⟩)), (10, .int .i64 0)] ∧ LVar w' g8 s1 0 0 ∧ w.heap.size ≤ g8 ∧ Below w.heap.size w w') a w := by
  have HN1 := Lib.hid hn1
  clear hn1
  obtain ⟨j, rfl, hj⟩ := hS.lit104
  have h0 : j 0 = .int .i64 tk := hj (0, _) (by simp)
  have h1 : j 1 = .int .u8 s1 := hj (1, _) (by simp)
  have h2 : j 2 = .int .u8 s2 := hj (2, _) (by simp)
  have h6 : j 6 = .bool false := hj (6, _) (by simp)
  have h7 : j 7 = .pointer (some ⟨g7, 0, none⟩) := hj (7, _) (by simp)
  clear hj hS
  unfold rgD bodyD
  simp only [Tryd.f6, Option.getD_some, nthSeq, lit104, List.cons_append, List.nil_append, h0, h1, h2, h6, h7]
  go_wp2_with fail
  refine (New_c w).mono ?_
  rintro e W1 ⟨rfl, b1⟩
  obtain ⟨X, hX⟩ : ∃ X, X = panelV n1 := ⟨_, rfl⟩
  have HX := Lib.hid hX
  clear hX
  go_wp2_with fail
  refine (panel_c n1 s1 HN1.out X HX.out W1).mono ?_
  rintro e W2 ⟨b2, A, c, rfl, hs⟩
  have B2 := below_step b1 b2
  have hr : (((s1, 0, 0), 0, (2#8, n1, [])) : Lst × Int × Frm) = hearV 2 X (-1, 65535, 0) := by rw [HX.out, hear_panel n1 s1 HN1.out (-1, 65535, 0) (by decide), if_neg (by simp)]
  have HR := Lib.hid hr
  have hl : X.length ≤ 140737488355328 := by rw [HX.out]; unfold panelV; simp [Crc.close, hb]
  clear hr
  go_wp2_with fail
  refine (Hear_v (-1, 65535, 0) 2 (.slice A X.length c) X W2 _ HR.out (hT.below B2) hs hl).mono ?_
  rintro e W3 ⟨A3, c3, rfl, b3, hs3, _⟩
  have B3 := below_step B2 b3
  clear hs hl HR B2 b1 b2 b3 hT hs3
  have b4 := below_new W3 (.cells #[.int .i64 s1, .int .i64 0, .int .i64 0] 31)
  have V4 := LVar.new W3 s1 0 0
  have b5 := below_new (W3.alloc (.cells #[.int .i64 s1, .int .i64 0, .int .i64 0] 31)) (.cells #[.int .u8 2, .int .u8 (n1.toNat : Int), .slice A3 0 c3] 41)
  have B5 := below_step (below_step B3 b4) b5
  have V5 := V4.later b5
  have hz := Lib.hid B3.size
  clear b4 V4 b5 B3
  go_wp2
  exact ⟨_, ⟨rfl, rfl, by simp⟩, V5, hz.out, B5⟩

set_option maxHeartbeats 4000000 in
theorem ld4 (a : Act) (tk s1 s2 : Int) (g7 g8 : Nat) (h1 : 1 ≤ tk ∧ tk ≤ 50) (hS : Sl a 104 [(0, .int .i64 tk), (1, .int .u8 s1), (2, .int .u8 s2), (6, .bool false), (7, .pointer (some ⟨g7, 0, none⟩)), (8, .pointer (some ⟨g8, 0, none⟩)), (10, .int .i64 0)]) (w : World) (hY : LY w g7 y1 tk) (hL : LVar w g8 s1 0 0) : (rgD 4).wp Tryd.prog (nrm fun a' w' => Sl a' 104 [(0, .int .i64 tk), (1, .int .u8 s1), (2, .int .u8 s2), (6, .bool false), (7, .pointer (some ⟨g7, 0, none⟩)), (8, .pointer (some ⟨g8, 0, none⟩)), (10, .int .i64 0)] ∧ Below w.heap.size w w') a w := by
  obtain ⟨j, rfl, hj⟩ := hS.lit104
  have h0 : j 0 = .int .i64 tk := hj (0, _) (by simp)
  have h1 : j 1 = .int .u8 s1 := hj (1, _) (by simp)
  have h2 : j 2 = .int .u8 s2 := hj (2, _) (by simp)
  have h6 : j 6 = .bool false := hj (6, _) (by simp)
  have h7 : j 7 = .pointer (some ⟨g7, 0, none⟩) := hj (7, _) (by simp)
  have h8 : j 8 = .pointer (some ⟨g8, 0, none⟩) := hj (8, _) (by simp)
  have h10 : j 10 = .int .i64 0 := hj (10, _) (by simp)
  clear hj hS
  unfold rgD bodyD
  simp only [Tryd.f6, Option.getD_some, nthSeq, lit104, List.cons_append, List.nil_append, h0, h1, h2, h6, h7, h8, h10]
  go_wp2
  refine wp_region_held_drew (S := (fun w' => LVar w' g8 s1 0 0 ∧ LY w' g7 y1 tk)) (by kernel_rfl) ?_ (fun hHeld => ?_)
  · exact ⟨⟨hL.at_⟩, ⟨hY.at_⟩⟩
  have Bb : Below w.heap.size w w.drew := (Below.refl _ w).drew
  have L0 := hL.later Bb
  have Y0 := hY.later Bb
  have d1 : true = decide (tk < 65535) := (decide_eq_true (by omega)).symm
  have d2 : false = decide (tk < 0) := (decide_eq_false (by omega)).symm
  have D1 := Lib.hid d1
  have D2 := Lib.hid d2
  clear hL hY d1 d2
  generalize w.drew = V at *
  refine Node.tk 0 ?_ rfl ?_ ?_
  rotate_left
  · intro w hSw; (try dsimp only at hSw); go_simp; try with_reducible rfl
  simp only [zA, zS, zZ, Act.put, zP, zQ, zR]
  refine Node.tk 1 ?_ rfl ?_ ?_
  rotate_left
  · intro w hSw; (try dsimp only at hSw); go_simp; try with_reducible rfl
  simp only [zA, zS, zZ, Act.put, zP, zQ, zR]
  refine Node.tk 2 ?_ rfl ?_ ?_
  rotate_left
  · intro w hSw; (try dsimp only at hSw); go_simp; try with_reducible rfl
  simp only [zA, zS, zZ, Act.put, zP, zQ, zR]
  refine Node.tk 3 (ly y1 tk) rfl (fun _ hSw => run_ly hSw.2 rfl rfl) ?_
  simp only [zA, zS, zZ, Act.put, zP, zQ, zR]
  refine Node.on 4 rfl (fun K hK => ?_)
  refine Node.wp_fn 19 [] _ [] (by rfl) (by rfl) (enters Tryd.func19 (by kernel_rfl) rfl) (New_c V) ?_
  rintro e V' ⟨rfl, b⟩
  refine ⟨_, rfl, ?_⟩
  replace Bb := below_step Bb b
  replace L0 := L0.later b
  replace Y0 := Y0.later b
  clear b
  generalize V' = V at *
  refine hK.out _ _ ⟨L0, Y0⟩ (fun hHeld => ?_)
  clear hK K
  try simp only [zA, zS, zZ, Act.put, zP, zQ, zR]
  refine Node.on 5 rfl (fun K hK => ?_)
  refine Node.wp_fn 23 [.tmp 36, .tmp 37] _ [ly y1 tk, lk (-1) 65535 0] (by rfl) (by rfl) (enters Tryd.func23 (by kernel_rfl) rfl) (Dead_c y1 tk (-1) 65535 0 true D1.out V) ?_
  rintro e V' ⟨rfl, b⟩
  refine ⟨_, rfl, ?_⟩
  replace Bb := below_step Bb b
  replace L0 := L0.later b
  replace Y0 := Y0.later b
  clear b
  generalize V' = V at *
  refine hK.out _ _ ⟨L0, Y0⟩ (fun hHeld => ?_)
  clear hK K
  try simp only [zA, zS, zZ, Act.put, zP, zQ, zR]
  refine Node.tk 6 ?_ rfl ?_ ?_
  rotate_left
  · intro w hSw; (try dsimp only at hSw); go_simp; try with_reducible rfl
  simp only [zA, zS, zZ, Act.put, zP, zQ, zR]
  refine Node.tk 7 ?_ rfl ?_ ?_
  rotate_left
  · intro w hSw; (try dsimp only at hSw); go_simp; try with_reducible rfl
  simp only [zA, zS, zZ, Act.put, zP, zQ, zR]
  refine Node.tk 8 ?_ rfl ?_ ?_
  rotate_left
  · intro w hSw; (try dsimp only at hSw); go_simp; try with_reducible rfl
  simp only [zA, zS, zZ, Act.put, zP, zQ, zR]
  refine Node.tk 9 (ly y1 tk) rfl (fun _ hSw => run_ly hSw.2 rfl rfl) ?_
  simp only [zA, zS, zZ, Act.put, zP, zQ, zR]
  refine Node.tk 10 (lk s1 0 0) rfl (fun _ hSw => run_ld hSw.1 rfl rfl) ?_
  simp only [zA, zS, zZ, Act.put, zP, zQ, zR]
  refine Node.on 11 rfl (fun K hK => ?_)
  refine Node.wp_fn 23 [.tmp 42, .tmp 43] _ [ly y1 tk, lk s1 0 0] (by rfl) (by rfl) (enters Tryd.func23 (by kernel_rfl) rfl) (Dead_c y1 tk s1 0 0 false D2.out V) ?_
  rintro e V' ⟨rfl, b⟩
  refine ⟨_, rfl, ?_⟩
  replace Bb := below_step Bb b
  replace L0 := L0.later b
  replace Y0 := Y0.later b
  clear b
  generalize V' = V at *
  refine hK.out _ _ ⟨L0, Y0⟩ (fun hHeld => ?_)
  clear hK K
  try simp only [zA, zS, zZ, Act.put, zP, zQ, zR]
  refine Node.tk 12 ?_ rfl ?_ ?_
  rotate_left
  · intro w hSw; (try dsimp only at hSw); go_simp; try with_reducible rfl
  simp only [zA, zS, zZ, Act.put, zP, zQ, zR]
  refine wpAnyH_done (by kernel_rfl) ?_ _
  go_wp2
  exact ⟨⟨rfl, rfl, by simp⟩, Bb⟩
end Go.Proofs.YtlanlkpamnoekaaDoor
namespace Go.Proofs.YtlanlkpamnoekaaDoor
open List renaming getElem_toArray → zA, getElem_cons_succ → zS, getElem_cons_zero → zZ, setIfInBounds_toArray → zP, set_cons_zero → zQ, set_cons_succ → zR
open Go Go.RowKit Rf Mem Bv Crc Str Lk
set_option maxRecDepth 100000
attribute [local go_sem ↓] run_max2 run_min2
def fD (n : BitVec 8) : Frm := (2#8, n, [])
set_option maxHeartbeats 4000000 in
theorem ld6 (a : Act) (tk s1 s2 : Int) (g7 g8 : Nat) (n2 : BitVec 8) (hn2 : s2 = n2.toNat) (h1t : 1 ≤ tk ∧ tk ≤ 50) (hS : Sl a 104 [(0, .int .i64 tk), (1, .int .u8 s1), (2, .int .u8 s2), (6, .bool false), (7, .pointer (some ⟨g7, 0, none⟩)), (8, .pointer (some ⟨g8, 0, none⟩)), (10, .int .i64 0)]) (w : World) (hT : Tops w) (L : LVar w g8 (-1) (tk + 1) 0) : (rgD 6).wp Tryd.prog (nrm fun a' w' => ∃ g12 g13, Sl a' 104 [(0, .int .i64 tk), (1, .int .u8 s1), (2, .int .u8 s2), (6, .bool false), (7, .pointer (some ⟨g7, 0, none⟩)), (8, .pointer (some ⟨g8, 0, none⟩)), (10, .int .i64 0), (12, .pointer (some ⟨g12, 0, none⟩)), (13, .pointer (some ⟨g13, 0, none⟩)), (14, .int .i64 0)] ∧ LVar w' g12 s2 0 0 ∧ FV w' g13 (fD n2) ∧ Below w.heap.size w w') a w := by
  have HN2 := Lib.hid hn2
  have HT1 := Lib.hid h1t
  clear hn2 h1t
  obtain ⟨j, rfl, hj⟩ := hS.lit104
  have h0 : j 0 = .int .i64 tk := hj (0, _) (by simp)
  have h1 : j 1 = .int .u8 s1 := hj (1, _) (by simp)
  have h2 : j 2 = .int .u8 s2 := hj (2, _) (by simp)
  have h6 : j 6 = .bool false := hj (6, _) (by simp)
  have h7 : j 7 = .pointer (some ⟨g7, 0, none⟩) := hj (7, _) (by simp)
  have h8 : j 8 = .pointer (some ⟨g8, 0, none⟩) := hj (8, _) (by simp)
  have h10 : j 10 = .int .i64 0 := hj (10, _) (by simp)
  clear hj hS
  unfold rgD bodyD
  simp only [Tryd.f6, Option.getD_some, nthSeq, lit104, List.cons_append, List.nil_append, h0, h1, h2, h6, h7, h8, h10]
  obtain ⟨q1, hq1⟩ : ∃ q1, q1 = tk + 1 := ⟨_, rfl⟩
  rw [← hq1] at L
  have HQ := Lib.hid hq1
  clear hq1
  obtain ⟨X, hX⟩ : ∃ X, X = panelV n2 := ⟨_, rfl⟩
  have hr : (((s2, 0, 0), 0, fD n2) : Lst × Int × Frm) = hearV 2 X (-1, q1, 0) := by rw [hX, hear_panel n2 s2 HN2.out (-1, q1, 0) (by have := HT1.out; have := HQ.out; unfold rightL clamp; simp; omega), if_neg (by simp)]; rfl
  have HR := Lib.hid hr
  have hl : X.length ≤ 140737488355328 := by rw [hX]; unfold panelV; simp [Crc.close, hb]
  have HL := Lib.hid hl
  have HX := Lib.hid hX
  clear hr hX hl
  refine wp_region_held_drew (S := (fun w' => LVar w' g8 (-1) q1 0)) (by kernel_rfl) ?_ (fun hHeld => ?_)
  · exact ⟨L.at_⟩
  have Bb : Below w.heap.size w w.drew := (Below.refl _ w).drew
  clear hHeld
  have L0 := L.later Bb
  have hT0 := hT.below Bb
  have hg2 := lt_of_at L.at_
  clear L hT
  generalize w.drew = V at *
  have hHeld := L0
  refine Node.tk 0 (lk (-1) q1 0) rfl (fun _ hSw => run_ld hSw rfl rfl) ?_
  simp only [zA, zS, zZ, Act.put, zP, zQ, zR]
  refine Node.tk 1 ?_ rfl ?_ ?_
  rotate_left
  · intro w hSw; (try dsimp only at hSw); go_simp; try with_reducible rfl
  simp only [zA, zS, zZ, Act.put, zP, zQ, zR]
  clear hHeld
  refine wpAnyH_ready (rs := [2, 8, 9]) (by kernel_rfl) (by simp) ?_
  refine AllReadyH.cons rfl (fun K hK => ?_) (AllReadyH.cons rfl (fun K hK => ?_) (AllReadyH.cons rfl (fun K hK => ?_) AllReadyH.nil))
  · skip
    refine Node.wp_fn 31 [.tmp 76] _ [.int .u8 s2] (by rfl) (by rfl) (enters Tryd.func31 (by kernel_rfl) rfl) (panel_c n2 s2 HN2.out X HX.out V) ?_
    rintro e V' ⟨b, Ap, cp, rfl, hs⟩
    refine ⟨_, rfl, ?_⟩
    replace Bb := below_step Bb b
    replace L0 := L0.later b
    replace hT0 := hT0.below b
    try replace N5 := N5.later b
    try replace N6 := below_at b N6 (lt_of_at N6)
    clear b
    generalize V' = V at *
    refine hK.out _ _ L0 (fun _ => ?_)
    clear hK K
    try simp only [zA, zS, zZ, Act.put, zP, zQ, zR]
    refine wpAnyH_ready (rs := [3, 8, 9]) (by kernel_rfl) (by simp) ?_
    refine AllReadyH.cons rfl (fun K hK => ?_) (AllReadyH.cons rfl (fun K hK => ?_) (AllReadyH.cons rfl (fun K hK => ?_) AllReadyH.nil))
    · skip
      refine Node.wp_fn 11 [.tmp 75, .const (.int .u8 2), .tmp 77] _ [lkv (-1, q1, 0), .int .u8 2, .slice Ap X.length cp] (by rfl) (by rfl) (enters Tryd.func11 (by kernel_rfl) rfl) (Hear_v (-1, q1, 0) 2 (.slice Ap X.length cp) X V _ HR.out hT0 hs HL.out) ?_
      rintro e V' ⟨A3, c3, rfl, b, hp, hq⟩
      clear hq
      refine ⟨_, rfl, ?_⟩
      replace Bb := below_step Bb b
      replace L0 := L0.later b
      replace hT0 := hT0.below b
      try replace N5 := N5.later b
      try replace N6 := below_at b N6 (lt_of_at N6)
      clear b hs
      generalize V' = V at *
      refine hK.out _ _ L0 (fun _ => ?_)
      clear hK K
      try simp only [zA, zS, zZ, Act.put, zP, zQ, zR]
      refine Node.tk 4 ?_ rfl ?_ ?_
      rotate_left
      · intro w hSw; (try dsimp only at hSw); go_simp; try with_reducible rfl
      simp only [zA, zS, zZ, Act.put, zP, zQ, zR]
      refine Node.tk 5 ?_ rfl ?_ ?_
      rotate_left
      · intro w hSw; (try dsimp only at hSw); go_simp; try with_reducible rfl
      simp only [zA, zS, zZ, Act.put, zP, zQ, zR]
      refine Node.tk 6 ?_ rfl ?_ ?_
      rotate_left
      · intro w hSw; (try dsimp only at hSw); go_simp; try with_reducible rfl
      simp only [zA, zS, zZ, Act.put, zP, zQ, zR]
      refine Node.tk 7 ?_ rfl ?_ ?_
      rotate_left
      · intro w hSw; (try dsimp only at hSw); go_simp; try with_reducible rfl
      simp only [zA, zS, zZ, Act.put, zP, zQ, zR]
      refine wpAnyH_ready (rs := [8, 9]) (by kernel_rfl) (by simp) ?_
      refine AllReadyH.cons rfl (fun K hK => ?_) (AllReadyH.cons rfl (fun K hK => ?_) AllReadyH.nil)
      · skip
        have N5 := LVar.new V 0 0 0
        have b := below_new V (.cells #[.int .i64 0, .int .i64 0, .int .i64 0] 31)
        refine Node.wp_new 31 (.agg #[.int .i64 0, .int .i64 0, .int .i64 0]) #[.int .i64 0, .int .i64 0, .int .i64 0] (by kernel_rfl) rfl (by rfl) ?_
        have n5 := Bb.size
        replace Bb := below_step Bb b
        replace L0 := L0.later b
        replace hT0 := hT0.below b
        try replace hs := hs.later b
        try replace hp := hp.later b
        try (have n56 := lt_of_at N6; replace N6 := below_at b N6 n56)
        clear b
        generalize V.heap.size = g5 at *
        generalize V.alloc (.cells #[.int .i64 0, .int .i64 0, .int .i64 0] 31) = V at *
        try replace n56 := Nat.ne_of_lt n56
        refine hK.out _ _ L0 (fun _ => ?_)
        clear hK K
        try simp only [zA, zS, zZ, Act.put, zP, zQ, zR]
        refine Node.on 9 rfl (fun K hK => ?_)
        have N6 := new_at (w := V) rfl (.cells #[.int .u8 0, .int .u8 0, .slice none 0 0] 41)
        have b := below_new V (.cells #[.int .u8 0, .int .u8 0, .slice none 0 0] 41)
        refine Node.wp_new 41 (.agg #[.int .u8 0, .int .u8 0, .slice none 0 0]) #[.int .u8 0, .int .u8 0, .slice none 0 0] (by kernel_rfl) rfl (by rfl) ?_
        have n6 := Bb.size
        replace Bb := below_step Bb b
        replace L0 := L0.later b
        replace hT0 := hT0.below b
        try replace hs := hs.later b
        try replace hp := hp.later b
        try (have n56 := lt_of_at N5.at_; replace N5 := N5.later b)
        clear b
        generalize V.heap.size = g6 at *
        generalize V.alloc (.cells #[.int .u8 0, .int .u8 0, .slice none 0 0] 41) = V at *
        try replace n56 := Ne.symm (Nat.ne_of_lt n56)
        refine hK.out _ _ L0 (fun _ => ?_)
        clear hK K
        try simp only [zA, zS, zZ, Act.put, zP, zQ, zR]
        refine Node.on 10 rfl (fun K hK => ?_)
        refine wp_st_lk N5 rfl rfl rfl rfl ?_
        have hn5 := lt_of_at N5.at_
        replace L0 := L0.far3 (g' := g5) (by omega) s2 0 0
        replace N6 := frame_far3 N6 (g' := g5) n56 s2 0 0
        have N5' := N5.set3 s2 0 0
        replace Bb := ((Bb.setCell (p := ⟨g5, 0, none⟩) n5 (.int .i64 s2)).setCell (p := ⟨g5, 1, none⟩) n5 (.int .i64 0)).setCell (p := ⟨g5, 2, none⟩) n5 (.int .i64 0)
        replace hp : SliceAt (((V.setCell ⟨g5, 0, none⟩ (.int .i64 s2)).setCell ⟨g5, 1, none⟩ (.int .i64 0)).setCell ⟨g5, 2, none⟩ (.int .i64 0)) 1 (.slice A3 (fD n2).2.2.length c3) (fD n2).2.2.length (u8s (fD n2).2.2) := slice_zero hp rfl
        clear N5 hT0 hn5
        generalize ((V.setCell ⟨g5, 0, none⟩ (.int .i64 s2)).setCell ⟨g5, 1, none⟩ (.int .i64 0)).setCell ⟨g5, 2, none⟩ (.int .i64 0) = V at *
        refine hK.out _ _ L0 (fun _ => ?_)
        clear hK K
        try simp only [zA, zS, zZ, Act.put, zP, zQ, zR]
        refine Node.on 11 rfl (fun K hK => ?_)
        refine wp_st_fr N6 rfl rfl rfl rfl ?_
        have F := FV.mk3 (f := (fD n2)) N6 hp rfl
        have hn6 := lt_of_at N6
        replace L0 := L0.at_
        replace L0 : LVar (((V.setCell ⟨g6, 0, none⟩ (.int .u8 ((fD n2).1.toNat : Int))).setCell ⟨g6, 1, none⟩ (.int .u8 ((fD n2).2.1.toNat : Int))).setCell ⟨g6, 2, none⟩ (.slice A3 (fD n2).2.2.length c3)) g8 (-1) q1 0 := ⟨frame_far3' L0 (by omega) _ _ _⟩
        replace N5' : LVar (((V.setCell ⟨g6, 0, none⟩ (.int .u8 ((fD n2).1.toNat : Int))).setCell ⟨g6, 1, none⟩ (.int .u8 ((fD n2).2.1.toNat : Int))).setCell ⟨g6, 2, none⟩ (.slice A3 (fD n2).2.2.length c3)) g5 s2 0 0 := ⟨frame_far3' N5'.at_ (Ne.symm n56) _ _ _⟩
        replace Bb := ((Bb.setCell (p := ⟨g6, 0, none⟩) n6 (.int .u8 ((fD n2).1.toNat : Int))).setCell (p := ⟨g6, 1, none⟩) n6 (.int .u8 ((fD n2).2.1.toNat : Int))).setCell (p := ⟨g6, 2, none⟩) n6 (.slice A3 (fD n2).2.2.length c3)
        clear N6 hp
        generalize ((V.setCell ⟨g6, 0, none⟩ (.int .u8 ((fD n2).1.toNat : Int))).setCell ⟨g6, 1, none⟩ (.int .u8 ((fD n2).2.1.toNat : Int))).setCell ⟨g6, 2, none⟩ (.slice A3 (fD n2).2.2.length c3) = V at *
        refine hK.out _ _ L0 (fun _ => ?_)
        clear hK K
        try simp only [zA, zS, zZ, Act.put, zP, zQ, zR]
        refine Node.tk 12 ?_ rfl ?_ ?_
        rotate_left
        · intro w hSw; (try dsimp only at hSw); go_simp; try with_reducible rfl
        simp only [zA, zS, zZ, Act.put, zP, zQ, zR]
        refine wpAnyH_done (by kernel_rfl) ?_ _
        exact ⟨g5, g6, ⟨rfl, rfl, by simp⟩, N5', F, Bb⟩
      · skip
        have N6 := new_at (w := V) rfl (.cells #[.int .u8 0, .int .u8 0, .slice none 0 0] 41)
        have b := below_new V (.cells #[.int .u8 0, .int .u8 0, .slice none 0 0] 41)
        refine Node.wp_new 41 (.agg #[.int .u8 0, .int .u8 0, .slice none 0 0]) #[.int .u8 0, .int .u8 0, .slice none 0 0] (by kernel_rfl) rfl (by rfl) ?_
        have n6 := Bb.size
        replace Bb := below_step Bb b
        replace L0 := L0.later b
        replace hT0 := hT0.below b
        try replace hs := hs.later b
        try replace hp := hp.later b
        try (have n56 := lt_of_at N5.at_; replace N5 := N5.later b)
        clear b
        generalize V.heap.size = g6 at *
        generalize V.alloc (.cells #[.int .u8 0, .int .u8 0, .slice none 0 0] 41) = V at *
        try replace n56 := Ne.symm (Nat.ne_of_lt n56)
        refine hK.out _ _ L0 (fun _ => ?_)
        clear hK K
        try simp only [zA, zS, zZ, Act.put, zP, zQ, zR]
        refine Node.on 8 rfl (fun K hK => ?_)
        have N5 := LVar.new V 0 0 0
        have b := below_new V (.cells #[.int .i64 0, .int .i64 0, .int .i64 0] 31)
        refine Node.wp_new 31 (.agg #[.int .i64 0, .int .i64 0, .int .i64 0]) #[.int .i64 0, .int .i64 0, .int .i64 0] (by kernel_rfl) rfl (by rfl) ?_
        have n5 := Bb.size
        replace Bb := below_step Bb b
        replace L0 := L0.later b
        replace hT0 := hT0.below b
        try replace hs := hs.later b
        try replace hp := hp.later b
        try (have n56 := lt_of_at N6; replace N6 := below_at b N6 n56)
        clear b
        generalize V.heap.size = g5 at *
        generalize V.alloc (.cells #[.int .i64 0, .int .i64 0, .int .i64 0] 31) = V at *
        try replace n56 := Nat.ne_of_lt n56
        refine hK.out _ _ L0 (fun _ => ?_)
        clear hK K
        try simp only [zA, zS, zZ, Act.put, zP, zQ, zR]
        refine Node.on 10 rfl (fun K hK => ?_)
        refine wp_st_lk N5 rfl rfl rfl rfl ?_
        have hn5 := lt_of_at N5.at_
        replace L0 := L0.far3 (g' := g5) (by omega) s2 0 0
        replace N6 := frame_far3 N6 (g' := g5) n56 s2 0 0
        have N5' := N5.set3 s2 0 0
        replace Bb := ((Bb.setCell (p := ⟨g5, 0, none⟩) n5 (.int .i64 s2)).setCell (p := ⟨g5, 1, none⟩) n5 (.int .i64 0)).setCell (p := ⟨g5, 2, none⟩) n5 (.int .i64 0)
        replace hp : SliceAt (((V.setCell ⟨g5, 0, none⟩ (.int .i64 s2)).setCell ⟨g5, 1, none⟩ (.int .i64 0)).setCell ⟨g5, 2, none⟩ (.int .i64 0)) 1 (.slice A3 (fD n2).2.2.length c3) (fD n2).2.2.length (u8s (fD n2).2.2) := slice_zero hp rfl
        clear N5 hT0 hn5
        generalize ((V.setCell ⟨g5, 0, none⟩ (.int .i64 s2)).setCell ⟨g5, 1, none⟩ (.int .i64 0)).setCell ⟨g5, 2, none⟩ (.int .i64 0) = V at *
        refine hK.out _ _ L0 (fun _ => ?_)
        clear hK K
        try simp only [zA, zS, zZ, Act.put, zP, zQ, zR]
        refine Node.on 11 rfl (fun K hK => ?_)
        refine wp_st_fr N6 rfl rfl rfl rfl ?_
        have F := FV.mk3 (f := (fD n2)) N6 hp rfl
        have hn6 := lt_of_at N6
        replace L0 := L0.at_
        replace L0 : LVar (((V.setCell ⟨g6, 0, none⟩ (.int .u8 ((fD n2).1.toNat : Int))).setCell ⟨g6, 1, none⟩ (.int .u8 ((fD n2).2.1.toNat : Int))).setCell ⟨g6, 2, none⟩ (.slice A3 (fD n2).2.2.length c3)) g8 (-1) q1 0 := ⟨frame_far3' L0 (by omega) _ _ _⟩
        replace N5' : LVar (((V.setCell ⟨g6, 0, none⟩ (.int .u8 ((fD n2).1.toNat : Int))).setCell ⟨g6, 1, none⟩ (.int .u8 ((fD n2).2.1.toNat : Int))).setCell ⟨g6, 2, none⟩ (.slice A3 (fD n2).2.2.length c3)) g5 s2 0 0 := ⟨frame_far3' N5'.at_ (Ne.symm n56) _ _ _⟩
        replace Bb := ((Bb.setCell (p := ⟨g6, 0, none⟩) n6 (.int .u8 ((fD n2).1.toNat : Int))).setCell (p := ⟨g6, 1, none⟩) n6 (.int .u8 ((fD n2).2.1.toNat : Int))).setCell (p := ⟨g6, 2, none⟩) n6 (.slice A3 (fD n2).2.2.length c3)
        clear N6 hp
        generalize ((V.setCell ⟨g6, 0, none⟩ (.int .u8 ((fD n2).1.toNat : Int))).setCell ⟨g6, 1, none⟩ (.int .u8 ((fD n2).2.1.toNat : Int))).setCell ⟨g6, 2, none⟩ (.slice A3 (fD n2).2.2.length c3) = V at *
        refine hK.out _ _ L0 (fun _ => ?_)
        clear hK K
        try simp only [zA, zS, zZ, Act.put, zP, zQ, zR]
        refine Node.tk 12 ?_ rfl ?_ ?_
        rotate_left
        · intro w hSw; (try dsimp only at hSw); go_simp; try with_reducible rfl
        simp only [zA, zS, zZ, Act.put, zP, zQ, zR]
        refine wpAnyH_done (by kernel_rfl) ?_ _
        exact ⟨g5, g6, ⟨rfl, rfl, by simp⟩, N5', F, Bb⟩
    · skip
      have N5 := LVar.new V 0 0 0
      have b := below_new V (.cells #[.int .i64 0, .int .i64 0, .int .i64 0] 31)
      refine Node.wp_new 31 (.agg #[.int .i64 0, .int .i64 0, .int .i64 0]) #[.int .i64 0, .int .i64 0, .int .i64 0] (by kernel_rfl) rfl (by rfl) ?_
      have n5 := Bb.size
      replace Bb := below_step Bb b
      replace L0 := L0.later b
      replace hT0 := hT0.below b
      try replace hs := hs.later b
      try replace hp := hp.later b
      try (have n56 := lt_of_at N6; replace N6 := below_at b N6 n56)
      clear b
      generalize V.heap.size = g5 at *
      generalize V.alloc (.cells #[.int .i64 0, .int .i64 0, .int .i64 0] 31) = V at *
      try replace n56 := Nat.ne_of_lt n56
      refine hK.out _ _ L0 (fun _ => ?_)
      clear hK K
      try simp only [zA, zS, zZ, Act.put, zP, zQ, zR]
      refine wpAnyH_ready (rs := [3, 9]) (by kernel_rfl) (by simp) ?_
      refine AllReadyH.cons rfl (fun K hK => ?_) (AllReadyH.cons rfl (fun K hK => ?_) AllReadyH.nil)
      · skip
        refine Node.wp_fn 11 [.tmp 75, .const (.int .u8 2), .tmp 77] _ [lkv (-1, q1, 0), .int .u8 2, .slice Ap X.length cp] (by rfl) (by rfl) (enters Tryd.func11 (by kernel_rfl) rfl) (Hear_v (-1, q1, 0) 2 (.slice Ap X.length cp) X V _ HR.out hT0 hs HL.out) ?_
        rintro e V' ⟨A3, c3, rfl, b, hp, hq⟩
        clear hq
        refine ⟨_, rfl, ?_⟩
        replace Bb := below_step Bb b
        replace L0 := L0.later b
        replace hT0 := hT0.below b
        try replace N5 := N5.later b
        try replace N6 := below_at b N6 (lt_of_at N6)
        clear b hs
        generalize V' = V at *
        refine hK.out _ _ L0 (fun _ => ?_)
        clear hK K
        try simp only [zA, zS, zZ, Act.put, zP, zQ, zR]
        refine Node.tk 4 ?_ rfl ?_ ?_
        rotate_left
        · intro w hSw; (try dsimp only at hSw); go_simp; try with_reducible rfl
        simp only [zA, zS, zZ, Act.put, zP, zQ, zR]
        refine Node.tk 5 ?_ rfl ?_ ?_
        rotate_left
        · intro w hSw; (try dsimp only at hSw); go_simp; try with_reducible rfl
        simp only [zA, zS, zZ, Act.put, zP, zQ, zR]
        refine Node.tk 6 ?_ rfl ?_ ?_
        rotate_left
        · intro w hSw; (try dsimp only at hSw); go_simp; try with_reducible rfl
        simp only [zA, zS, zZ, Act.put, zP, zQ, zR]
        refine Node.tk 7 ?_ rfl ?_ ?_
        rotate_left
        · intro w hSw; (try dsimp only at hSw); go_simp; try with_reducible rfl
        simp only [zA, zS, zZ, Act.put, zP, zQ, zR]
        refine Node.on 9 rfl (fun K hK => ?_)
        have N6 := new_at (w := V) rfl (.cells #[.int .u8 0, .int .u8 0, .slice none 0 0] 41)
        have b := below_new V (.cells #[.int .u8 0, .int .u8 0, .slice none 0 0] 41)
        refine Node.wp_new 41 (.agg #[.int .u8 0, .int .u8 0, .slice none 0 0]) #[.int .u8 0, .int .u8 0, .slice none 0 0] (by kernel_rfl) rfl (by rfl) ?_
        have n6 := Bb.size
        replace Bb := below_step Bb b
        replace L0 := L0.later b
        replace hT0 := hT0.below b
        try replace hs := hs.later b
        try replace hp := hp.later b
        try (have n56 := lt_of_at N5.at_; replace N5 := N5.later b)
        clear b
        generalize V.heap.size = g6 at *
        generalize V.alloc (.cells #[.int .u8 0, .int .u8 0, .slice none 0 0] 41) = V at *
        try replace n56 := Ne.symm (Nat.ne_of_lt n56)
        refine hK.out _ _ L0 (fun _ => ?_)
        clear hK K
        try simp only [zA, zS, zZ, Act.put, zP, zQ, zR]
        refine Node.on 10 rfl (fun K hK => ?_)
        refine wp_st_lk N5 rfl rfl rfl rfl ?_
        have hn5 := lt_of_at N5.at_
        replace L0 := L0.far3 (g' := g5) (by omega) s2 0 0
        replace N6 := frame_far3 N6 (g' := g5) n56 s2 0 0
        have N5' := N5.set3 s2 0 0
        replace Bb := ((Bb.setCell (p := ⟨g5, 0, none⟩) n5 (.int .i64 s2)).setCell (p := ⟨g5, 1, none⟩) n5 (.int .i64 0)).setCell (p := ⟨g5, 2, none⟩) n5 (.int .i64 0)
        replace hp : SliceAt (((V.setCell ⟨g5, 0, none⟩ (.int .i64 s2)).setCell ⟨g5, 1, none⟩ (.int .i64 0)).setCell ⟨g5, 2, none⟩ (.int .i64 0)) 1 (.slice A3 (fD n2).2.2.length c3) (fD n2).2.2.length (u8s (fD n2).2.2) := slice_zero hp rfl
        clear N5 hT0 hn5
        generalize ((V.setCell ⟨g5, 0, none⟩ (.int .i64 s2)).setCell ⟨g5, 1, none⟩ (.int .i64 0)).setCell ⟨g5, 2, none⟩ (.int .i64 0) = V at *
        refine hK.out _ _ L0 (fun _ => ?_)
        clear hK K
        try simp only [zA, zS, zZ, Act.put, zP, zQ, zR]
        refine Node.on 11 rfl (fun K hK => ?_)
        refine wp_st_fr N6 rfl rfl rfl rfl ?_
        have F := FV.mk3 (f := (fD n2)) N6 hp rfl
        have hn6 := lt_of_at N6
        replace L0 := L0.at_
        replace L0 : LVar (((V.setCell ⟨g6, 0, none⟩ (.int .u8 ((fD n2).1.toNat : Int))).setCell ⟨g6, 1, none⟩ (.int .u8 ((fD n2).2.1.toNat : Int))).setCell ⟨g6, 2, none⟩ (.slice A3 (fD n2).2.2.length c3)) g8 (-1) q1 0 := ⟨frame_far3' L0 (by omega) _ _ _⟩
        replace N5' : LVar (((V.setCell ⟨g6, 0, none⟩ (.int .u8 ((fD n2).1.toNat : Int))).setCell ⟨g6, 1, none⟩ (.int .u8 ((fD n2).2.1.toNat : Int))).setCell ⟨g6, 2, none⟩ (.slice A3 (fD n2).2.2.length c3)) g5 s2 0 0 := ⟨frame_far3' N5'.at_ (Ne.symm n56) _ _ _⟩
        replace Bb := ((Bb.setCell (p := ⟨g6, 0, none⟩) n6 (.int .u8 ((fD n2).1.toNat : Int))).setCell (p := ⟨g6, 1, none⟩) n6 (.int .u8 ((fD n2).2.1.toNat : Int))).setCell (p := ⟨g6, 2, none⟩) n6 (.slice A3 (fD n2).2.2.length c3)
        clear N6 hp
        generalize ((V.setCell ⟨g6, 0, none⟩ (.int .u8 ((fD n2).1.toNat : Int))).setCell ⟨g6, 1, none⟩ (.int .u8 ((fD n2).2.1.toNat : Int))).setCell ⟨g6, 2, none⟩ (.slice A3 (fD n2).2.2.length c3) = V at *
        refine hK.out _ _ L0 (fun _ => ?_)
        clear hK K
        try simp only [zA, zS, zZ, Act.put, zP, zQ, zR]
        refine Node.tk 12 ?_ rfl ?_ ?_
        rotate_left
        · intro w hSw; (try dsimp only at hSw); go_simp; try with_reducible rfl
        simp only [zA, zS, zZ, Act.put, zP, zQ, zR]
        refine wpAnyH_done (by kernel_rfl) ?_ _
        exact ⟨g5, g6, ⟨rfl, rfl, by simp⟩, N5', F, Bb⟩
      · skip
        have N6 := new_at (w := V) rfl (.cells #[.int .u8 0, .int .u8 0, .slice none 0 0] 41)
        have b := below_new V (.cells #[.int .u8 0, .int .u8 0, .slice none 0 0] 41)
        refine Node.wp_new 41 (.agg #[.int .u8 0, .int .u8 0, .slice none 0 0]) #[.int .u8 0, .int .u8 0, .slice none 0 0] (by kernel_rfl) rfl (by rfl) ?_
        have n6 := Bb.size
        replace Bb := below_step Bb b
        replace L0 := L0.later b
        replace hT0 := hT0.below b
        try replace hs := hs.later b
        try replace hp := hp.later b
        try (have n56 := lt_of_at N5.at_; replace N5 := N5.later b)
        clear b
        generalize V.heap.size = g6 at *
        generalize V.alloc (.cells #[.int .u8 0, .int .u8 0, .slice none 0 0] 41) = V at *
        try replace n56 := Ne.symm (Nat.ne_of_lt n56)
        refine hK.out _ _ L0 (fun _ => ?_)
        clear hK K
        try simp only [zA, zS, zZ, Act.put, zP, zQ, zR]
        refine Node.on 3 rfl (fun K hK => ?_)
        refine Node.wp_fn 11 [.tmp 75, .const (.int .u8 2), .tmp 77] _ [lkv (-1, q1, 0), .int .u8 2, .slice Ap X.length cp] (by rfl) (by rfl) (enters Tryd.func11 (by kernel_rfl) rfl) (Hear_v (-1, q1, 0) 2 (.slice Ap X.length cp) X V _ HR.out hT0 hs HL.out) ?_
        rintro e V' ⟨A3, c3, rfl, b, hp, hq⟩
        clear hq
        refine ⟨_, rfl, ?_⟩
        replace Bb := below_step Bb b
        replace L0 := L0.later b
        replace hT0 := hT0.below b
        try replace N5 := N5.later b
        try replace N6 := below_at b N6 (lt_of_at N6)
        clear b hs
        generalize V' = V at *
        refine hK.out _ _ L0 (fun _ => ?_)
        clear hK K
        try simp only [zA, zS, zZ, Act.put, zP, zQ, zR]
        refine Node.tk 4 ?_ rfl ?_ ?_
        rotate_left
        · intro w hSw; (try dsimp only at hSw); go_simp; try with_reducible rfl
        simp only [zA, zS, zZ, Act.put, zP, zQ, zR]
        refine Node.tk 5 ?_ rfl ?_ ?_
        rotate_left
        · intro w hSw; (try dsimp only at hSw); go_simp; try with_reducible rfl
        simp only [zA, zS, zZ, Act.put, zP, zQ, zR]
        refine Node.tk 6 ?_ rfl ?_ ?_
        rotate_left
        · intro w hSw; (try dsimp only at hSw); go_simp; try with_reducible rfl
        simp only [zA, zS, zZ, Act.put, zP, zQ, zR]
        refine Node.tk 7 ?_ rfl ?_ ?_
        rotate_left
        · intro w hSw; (try dsimp only at hSw); go_simp; try with_reducible rfl
        simp only [zA, zS, zZ, Act.put, zP, zQ, zR]
        refine Node.on 10 rfl (fun K hK => ?_)
        refine wp_st_lk N5 rfl rfl rfl rfl ?_
        have hn5 := lt_of_at N5.at_
        replace L0 := L0.far3 (g' := g5) (by omega) s2 0 0
        replace N6 := frame_far3 N6 (g' := g5) n56 s2 0 0
        have N5' := N5.set3 s2 0 0
        replace Bb := ((Bb.setCell (p := ⟨g5, 0, none⟩) n5 (.int .i64 s2)).setCell (p := ⟨g5, 1, none⟩) n5 (.int .i64 0)).setCell (p := ⟨g5, 2, none⟩) n5 (.int .i64 0)
        replace hp : SliceAt (((V.setCell ⟨g5, 0, none⟩ (.int .i64 s2)).setCell ⟨g5, 1, none⟩ (.int .i64 0)).setCell ⟨g5, 2, none⟩ (.int .i64 0)) 1 (.slice A3 (fD n2).2.2.length c3) (fD n2).2.2.length (u8s (fD n2).2.2) := slice_zero hp rfl
        clear N5 hT0 hn5
        generalize ((V.setCell ⟨g5, 0, none⟩ (.int .i64 s2)).setCell ⟨g5, 1, none⟩ (.int .i64 0)).setCell ⟨g5, 2, none⟩ (.int .i64 0) = V at *
        refine hK.out _ _ L0 (fun _ => ?_)
        clear hK K
        try simp only [zA, zS, zZ, Act.put, zP, zQ, zR]
        refine Node.on 11 rfl (fun K hK => ?_)
        refine wp_st_fr N6 rfl rfl rfl rfl ?_
        have F := FV.mk3 (f := (fD n2)) N6 hp rfl
        have hn6 := lt_of_at N6
        replace L0 := L0.at_
        replace L0 : LVar (((V.setCell ⟨g6, 0, none⟩ (.int .u8 ((fD n2).1.toNat : Int))).setCell ⟨g6, 1, none⟩ (.int .u8 ((fD n2).2.1.toNat : Int))).setCell ⟨g6, 2, none⟩ (.slice A3 (fD n2).2.2.length c3)) g8 (-1) q1 0 := ⟨frame_far3' L0 (by omega) _ _ _⟩
        replace N5' : LVar (((V.setCell ⟨g6, 0, none⟩ (.int .u8 ((fD n2).1.toNat : Int))).setCell ⟨g6, 1, none⟩ (.int .u8 ((fD n2).2.1.toNat : Int))).setCell ⟨g6, 2, none⟩ (.slice A3 (fD n2).2.2.length c3)) g5 s2 0 0 := ⟨frame_far3' N5'.at_ (Ne.symm n56) _ _ _⟩
        replace Bb := ((Bb.setCell (p := ⟨g6, 0, none⟩) n6 (.int .u8 ((fD n2).1.toNat : Int))).setCell (p := ⟨g6, 1, none⟩) n6 (.int .u8 ((fD n2).2.1.toNat : Int))).setCell (p := ⟨g6, 2, none⟩) n6 (.slice A3 (fD n2).2.2.length c3)
        clear N6 hp
        generalize ((V.setCell ⟨g6, 0, none⟩ (.int .u8 ((fD n2).1.toNat : Int))).setCell ⟨g6, 1, none⟩ (.int .u8 ((fD n2).2.1.toNat : Int))).setCell ⟨g6, 2, none⟩ (.slice A3 (fD n2).2.2.length c3) = V at *
        refine hK.out _ _ L0 (fun _ => ?_)
        clear hK K
        try simp only [zA, zS, zZ, Act.put, zP, zQ, zR]
        refine Node.tk 12 ?_ rfl ?_ ?_
        rotate_left
        · intro w hSw; (try dsimp only at hSw); go_simp; try with_reducible rfl
        simp only [zA, zS, zZ, Act.put, zP, zQ, zR]
        refine wpAnyH_done (by kernel_rfl) ?_ _
        exact ⟨g5, g6, ⟨rfl, rfl, by simp⟩, N5', F, Bb⟩
    · skip
      have N6 := new_at (w := V) rfl (.cells #[.int .u8 0, .int .u8 0, .slice none 0 0] 41)
      have b := below_new V (.cells #[.int .u8 0, .int .u8 0, .slice none 0 0] 41)
      refine Node.wp_new 41 (.agg #[.int .u8 0, .int .u8 0, .slice none 0 0]) #[.int .u8 0, .int .u8 0, .slice none 0 0] (by kernel_rfl) rfl (by rfl) ?_
      have n6 := Bb.size
      replace Bb := below_step Bb b
      replace L0 := L0.later b
      replace hT0 := hT0.below b
      try replace hs := hs.later b
      try replace hp := hp.later b
      try (have n56 := lt_of_at N5.at_; replace N5 := N5.later b)
      clear b
      generalize V.heap.size = g6 at *
      generalize V.alloc (.cells #[.int .u8 0, .int .u8 0, .slice none 0 0] 41) = V at *
      try replace n56 := Ne.symm (Nat.ne_of_lt n56)
      refine hK.out _ _ L0 (fun _ => ?_)
      clear hK K
      try simp only [zA, zS, zZ, Act.put, zP, zQ, zR]
      refine wpAnyH_ready (rs := [3, 8]) (by kernel_rfl) (by simp) ?_
      refine AllReadyH.cons rfl (fun K hK => ?_) (AllReadyH.cons rfl (fun K hK => ?_) AllReadyH.nil)
      · skip
        refine Node.wp_fn 11 [.tmp 75, .const (.int .u8 2), .tmp 77] _ [lkv (-1, q1, 0), .int .u8 2, .slice Ap X.length cp] (by rfl) (by rfl) (enters Tryd.func11 (by kernel_rfl) rfl) (Hear_v (-1, q1, 0) 2 (.slice Ap X.length cp) X V _ HR.out hT0 hs HL.out) ?_
        rintro e V' ⟨A3, c3, rfl, b, hp, hq⟩
        clear hq
        refine ⟨_, rfl, ?_⟩
        replace Bb := below_step Bb b
        replace L0 := L0.later b
        replace hT0 := hT0.below b
        try replace N5 := N5.later b
        try replace N6 := below_at b N6 (lt_of_at N6)
        clear b hs
        generalize V' = V at *
        refine hK.out _ _ L0 (fun _ => ?_)
        clear hK K
        try simp only [zA, zS, zZ, Act.put, zP, zQ, zR]
        refine Node.tk 4 ?_ rfl ?_ ?_
        rotate_left
        · intro w hSw; (try dsimp only at hSw); go_simp; try with_reducible rfl
        simp only [zA, zS, zZ, Act.put, zP, zQ, zR]
        refine Node.tk 5 ?_ rfl ?_ ?_
        rotate_left
        · intro w hSw; (try dsimp only at hSw); go_simp; try with_reducible rfl
        simp only [zA, zS, zZ, Act.put, zP, zQ, zR]
        refine Node.tk 6 ?_ rfl ?_ ?_
        rotate_left
        · intro w hSw; (try dsimp only at hSw); go_simp; try with_reducible rfl
        simp only [zA, zS, zZ, Act.put, zP, zQ, zR]
        refine Node.tk 7 ?_ rfl ?_ ?_
        rotate_left
        · intro w hSw; (try dsimp only at hSw); go_simp; try with_reducible rfl
        simp only [zA, zS, zZ, Act.put, zP, zQ, zR]
        refine Node.on 8 rfl (fun K hK => ?_)
        have N5 := LVar.new V 0 0 0
        have b := below_new V (.cells #[.int .i64 0, .int .i64 0, .int .i64 0] 31)
        refine Node.wp_new 31 (.agg #[.int .i64 0, .int .i64 0, .int .i64 0]) #[.int .i64 0, .int .i64 0, .int .i64 0] (by kernel_rfl) rfl (by rfl) ?_
        have n5 := Bb.size
        replace Bb := below_step Bb b
        replace L0 := L0.later b
        replace hT0 := hT0.below b
        try replace hs := hs.later b
        try replace hp := hp.later b
        try (have n56 := lt_of_at N6; replace N6 := below_at b N6 n56)
        clear b
        generalize V.heap.size = g5 at *
        generalize V.alloc (.cells #[.int .i64 0, .int .i64 0, .int .i64 0] 31) = V at *
        try replace n56 := Nat.ne_of_lt n56
        refine hK.out _ _ L0 (fun _ => ?_)
        clear hK K
        try simp only [zA, zS, zZ, Act.put, zP, zQ, zR]
        refine Node.on 10 rfl (fun K hK => ?_)
        refine wp_st_lk N5 rfl rfl rfl rfl ?_
        have hn5 := lt_of_at N5.at_
        replace L0 := L0.far3 (g' := g5) (by omega) s2 0 0
        replace N6 := frame_far3 N6 (g' := g5) n56 s2 0 0
        have N5' := N5.set3 s2 0 0
        replace Bb := ((Bb.setCell (p := ⟨g5, 0, none⟩) n5 (.int .i64 s2)).setCell (p := ⟨g5, 1, none⟩) n5 (.int .i64 0)).setCell (p := ⟨g5, 2, none⟩) n5 (.int .i64 0)
        replace hp : SliceAt (((V.setCell ⟨g5, 0, none⟩ (.int .i64 s2)).setCell ⟨g5, 1, none⟩ (.int .i64 0)).setCell ⟨g5, 2, none⟩ (.int .i64 0)) 1 (.slice A3 (fD n2).2.2.length c3) (fD n2).2.2.length (u8s (fD n2).2.2) := slice_zero hp rfl
        clear N5 hT0 hn5
        generalize ((V.setCell ⟨g5, 0, none⟩ (.int .i64 s2)).setCell ⟨g5, 1, none⟩ (.int .i64 0)).setCell ⟨g5, 2, none⟩ (.int .i64 0) = V at *
        refine hK.out _ _ L0 (fun _ => ?_)
        clear hK K
        try simp only [zA, zS, zZ, Act.put, zP, zQ, zR]
        refine Node.on 11 rfl (fun K hK => ?_)
        refine wp_st_fr N6 rfl rfl rfl rfl ?_
        have F := FV.mk3 (f := (fD n2)) N6 hp rfl
        have hn6 := lt_of_at N6
        replace L0 := L0.at_
        replace L0 : LVar (((V.setCell ⟨g6, 0, none⟩ (.int .u8 ((fD n2).1.toNat : Int))).setCell ⟨g6, 1, none⟩ (.int .u8 ((fD n2).2.1.toNat : Int))).setCell ⟨g6, 2, none⟩ (.slice A3 (fD n2).2.2.length c3)) g8 (-1) q1 0 := ⟨frame_far3' L0 (by omega) _ _ _⟩
        replace N5' : LVar (((V.setCell ⟨g6, 0, none⟩ (.int .u8 ((fD n2).1.toNat : Int))).setCell ⟨g6, 1, none⟩ (.int .u8 ((fD n2).2.1.toNat : Int))).setCell ⟨g6, 2, none⟩ (.slice A3 (fD n2).2.2.length c3)) g5 s2 0 0 := ⟨frame_far3' N5'.at_ (Ne.symm n56) _ _ _⟩
        replace Bb := ((Bb.setCell (p := ⟨g6, 0, none⟩) n6 (.int .u8 ((fD n2).1.toNat : Int))).setCell (p := ⟨g6, 1, none⟩) n6 (.int .u8 ((fD n2).2.1.toNat : Int))).setCell (p := ⟨g6, 2, none⟩) n6 (.slice A3 (fD n2).2.2.length c3)
        clear N6 hp
        generalize ((V.setCell ⟨g6, 0, none⟩ (.int .u8 ((fD n2).1.toNat : Int))).setCell ⟨g6, 1, none⟩ (.int .u8 ((fD n2).2.1.toNat : Int))).setCell ⟨g6, 2, none⟩ (.slice A3 (fD n2).2.2.length c3) = V at *
        refine hK.out _ _ L0 (fun _ => ?_)
        clear hK K
        try simp only [zA, zS, zZ, Act.put, zP, zQ, zR]
        refine Node.tk 12 ?_ rfl ?_ ?_
        rotate_left
        · intro w hSw; (try dsimp only at hSw); go_simp; try with_reducible rfl
        simp only [zA, zS, zZ, Act.put, zP, zQ, zR]
        refine wpAnyH_done (by kernel_rfl) ?_ _
        exact ⟨g5, g6, ⟨rfl, rfl, by simp⟩, N5', F, Bb⟩
      · skip
        have N5 := LVar.new V 0 0 0
        have b := below_new V (.cells #[.int .i64 0, .int .i64 0, .int .i64 0] 31)
        refine Node.wp_new 31 (.agg #[.int .i64 0, .int .i64 0, .int .i64 0]) #[.int .i64 0, .int .i64 0, .int .i64 0] (by kernel_rfl) rfl (by rfl) ?_
        have n5 := Bb.size
        replace Bb := below_step Bb b
        replace L0 := L0.later b
        replace hT0 := hT0.below b
        try replace hs := hs.later b
        try replace hp := hp.later b
        try (have n56 := lt_of_at N6; replace N6 := below_at b N6 n56)
        clear b
        generalize V.heap.size = g5 at *
        generalize V.alloc (.cells #[.int .i64 0, .int .i64 0, .int .i64 0] 31) = V at *
        try replace n56 := Nat.ne_of_lt n56
        refine hK.out _ _ L0 (fun _ => ?_)
        clear hK K
        try simp only [zA, zS, zZ, Act.put, zP, zQ, zR]
        refine Node.on 3 rfl (fun K hK => ?_)
        refine Node.wp_fn 11 [.tmp 75, .const (.int .u8 2), .tmp 77] _ [lkv (-1, q1, 0), .int .u8 2, .slice Ap X.length cp] (by rfl) (by rfl) (enters Tryd.func11 (by kernel_rfl) rfl) (Hear_v (-1, q1, 0) 2 (.slice Ap X.length cp) X V _ HR.out hT0 hs HL.out) ?_
        rintro e V' ⟨A3, c3, rfl, b, hp, hq⟩
        clear hq
        refine ⟨_, rfl, ?_⟩
        replace Bb := below_step Bb b
        replace L0 := L0.later b
        replace hT0 := hT0.below b
        try replace N5 := N5.later b
        try replace N6 := below_at b N6 (lt_of_at N6)
        clear b hs
        generalize V' = V at *
        refine hK.out _ _ L0 (fun _ => ?_)
        clear hK K
        try simp only [zA, zS, zZ, Act.put, zP, zQ, zR]
        refine Node.tk 4 ?_ rfl ?_ ?_
        rotate_left
        · intro w hSw; (try dsimp only at hSw); go_simp; try with_reducible rfl
        simp only [zA, zS, zZ, Act.put, zP, zQ, zR]
        refine Node.tk 5 ?_ rfl ?_ ?_
        rotate_left
        · intro w hSw; (try dsimp only at hSw); go_simp; try with_reducible rfl
        simp only [zA, zS, zZ, Act.put, zP, zQ, zR]
        refine Node.tk 6 ?_ rfl ?_ ?_
        rotate_left
        · intro w hSw; (try dsimp only at hSw); go_simp; try with_reducible rfl
        simp only [zA, zS, zZ, Act.put, zP, zQ, zR]
        refine Node.tk 7 ?_ rfl ?_ ?_
        rotate_left
        · intro w hSw; (try dsimp only at hSw); go_simp; try with_reducible rfl
        simp only [zA, zS, zZ, Act.put, zP, zQ, zR]
        refine Node.on 10 rfl (fun K hK => ?_)
        refine wp_st_lk N5 rfl rfl rfl rfl ?_
        have hn5 := lt_of_at N5.at_
        replace L0 := L0.far3 (g' := g5) (by omega) s2 0 0
        replace N6 := frame_far3 N6 (g' := g5) n56 s2 0 0
        have N5' := N5.set3 s2 0 0
        replace Bb := ((Bb.setCell (p := ⟨g5, 0, none⟩) n5 (.int .i64 s2)).setCell (p := ⟨g5, 1, none⟩) n5 (.int .i64 0)).setCell (p := ⟨g5, 2, none⟩) n5 (.int .i64 0)
        replace hp : SliceAt (((V.setCell ⟨g5, 0, none⟩ (.int .i64 s2)).setCell ⟨g5, 1, none⟩ (.int .i64 0)).setCell ⟨g5, 2, none⟩ (.int .i64 0)) 1 (.slice A3 (fD n2).2.2.length c3) (fD n2).2.2.length (u8s (fD n2).2.2) := slice_zero hp rfl
        clear N5 hT0 hn5
        generalize ((V.setCell ⟨g5, 0, none⟩ (.int .i64 s2)).setCell ⟨g5, 1, none⟩ (.int .i64 0)).setCell ⟨g5, 2, none⟩ (.int .i64 0) = V at *
        refine hK.out _ _ L0 (fun _ => ?_)
        clear hK K
        try simp only [zA, zS, zZ, Act.put, zP, zQ, zR]
        refine Node.on 11 rfl (fun K hK => ?_)
        refine wp_st_fr N6 rfl rfl rfl rfl ?_
        have F := FV.mk3 (f := (fD n2)) N6 hp rfl
        have hn6 := lt_of_at N6
        replace L0 := L0.at_
        replace L0 : LVar (((V.setCell ⟨g6, 0, none⟩ (.int .u8 ((fD n2).1.toNat : Int))).setCell ⟨g6, 1, none⟩ (.int .u8 ((fD n2).2.1.toNat : Int))).setCell ⟨g6, 2, none⟩ (.slice A3 (fD n2).2.2.length c3)) g8 (-1) q1 0 := ⟨frame_far3' L0 (by omega) _ _ _⟩
        replace N5' : LVar (((V.setCell ⟨g6, 0, none⟩ (.int .u8 ((fD n2).1.toNat : Int))).setCell ⟨g6, 1, none⟩ (.int .u8 ((fD n2).2.1.toNat : Int))).setCell ⟨g6, 2, none⟩ (.slice A3 (fD n2).2.2.length c3)) g5 s2 0 0 := ⟨frame_far3' N5'.at_ (Ne.symm n56) _ _ _⟩
        replace Bb := ((Bb.setCell (p := ⟨g6, 0, none⟩) n6 (.int .u8 ((fD n2).1.toNat : Int))).setCell (p := ⟨g6, 1, none⟩) n6 (.int .u8 ((fD n2).2.1.toNat : Int))).setCell (p := ⟨g6, 2, none⟩) n6 (.slice A3 (fD n2).2.2.length c3)
        clear N6 hp
        generalize ((V.setCell ⟨g6, 0, none⟩ (.int .u8 ((fD n2).1.toNat : Int))).setCell ⟨g6, 1, none⟩ (.int .u8 ((fD n2).2.1.toNat : Int))).setCell ⟨g6, 2, none⟩ (.slice A3 (fD n2).2.2.length c3) = V at *
        refine hK.out _ _ L0 (fun _ => ?_)
        clear hK K
        try simp only [zA, zS, zZ, Act.put, zP, zQ, zR]
        refine Node.tk 12 ?_ rfl ?_ ?_
        rotate_left
        · intro w hSw; (try dsimp only at hSw); go_simp; try with_reducible rfl
        simp only [zA, zS, zZ, Act.put, zP, zQ, zR]
        refine wpAnyH_done (by kernel_rfl) ?_ _
        exact ⟨g5, g6, ⟨rfl, rfl, by simp⟩, N5', F, Bb⟩
  · skip
    have N5 := LVar.new V 0 0 0
    have b := below_new V (.cells #[.int .i64 0, .int .i64 0, .int .i64 0] 31)
    refine Node.wp_new 31 (.agg #[.int .i64 0, .int .i64 0, .int .i64 0]) #[.int .i64 0, .int .i64 0, .int .i64 0] (by kernel_rfl) rfl (by rfl) ?_
    have n5 := Bb.size
    replace Bb := below_step Bb b
    replace L0 := L0.later b
    replace hT0 := hT0.below b
    try replace hs := hs.later b
    try replace hp := hp.later b
    try (have n56 := lt_of_at N6; replace N6 := below_at b N6 n56)
    clear b
    generalize V.heap.size = g5 at *
    generalize V.alloc (.cells #[.int .i64 0, .int .i64 0, .int .i64 0] 31) = V at *
    try replace n56 := Nat.ne_of_lt n56
    refine hK.out _ _ L0 (fun _ => ?_)
    clear hK K
    try simp only [zA, zS, zZ, Act.put, zP, zQ, zR]
    refine wpAnyH_ready (rs := [2, 9]) (by kernel_rfl) (by simp) ?_
    refine AllReadyH.cons rfl (fun K hK => ?_) (AllReadyH.cons rfl (fun K hK => ?_) AllReadyH.nil)
    · skip
      refine Node.wp_fn 31 [.tmp 76] _ [.int .u8 s2] (by rfl) (by rfl) (enters Tryd.func31 (by kernel_rfl) rfl) (panel_c n2 s2 HN2.out X HX.out V) ?_
      rintro e V' ⟨b, Ap, cp, rfl, hs⟩
      refine ⟨_, rfl, ?_⟩
      replace Bb := below_step Bb b
      replace L0 := L0.later b
      replace hT0 := hT0.below b
      try replace N5 := N5.later b
      try replace N6 := below_at b N6 (lt_of_at N6)
      clear b
      generalize V' = V at *
      refine hK.out _ _ L0 (fun _ => ?_)
      clear hK K
      try simp only [zA, zS, zZ, Act.put, zP, zQ, zR]
      refine wpAnyH_ready (rs := [3, 9]) (by kernel_rfl) (by simp) ?_
      refine AllReadyH.cons rfl (fun K hK => ?_) (AllReadyH.cons rfl (fun K hK => ?_) AllReadyH.nil)
      · skip
        refine Node.wp_fn 11 [.tmp 75, .const (.int .u8 2), .tmp 77] _ [lkv (-1, q1, 0), .int .u8 2, .slice Ap X.length cp] (by rfl) (by rfl) (enters Tryd.func11 (by kernel_rfl) rfl) (Hear_v (-1, q1, 0) 2 (.slice Ap X.length cp) X V _ HR.out hT0 hs HL.out) ?_
        rintro e V' ⟨A3, c3, rfl, b, hp, hq⟩
        clear hq
        refine ⟨_, rfl, ?_⟩
        replace Bb := below_step Bb b
        replace L0 := L0.later b
        replace hT0 := hT0.below b
        try replace N5 := N5.later b
        try replace N6 := below_at b N6 (lt_of_at N6)
        clear b hs
        generalize V' = V at *
        refine hK.out _ _ L0 (fun _ => ?_)
        clear hK K
        try simp only [zA, zS, zZ, Act.put, zP, zQ, zR]
        refine Node.tk 4 ?_ rfl ?_ ?_
        rotate_left
        · intro w hSw; (try dsimp only at hSw); go_simp; try with_reducible rfl
        simp only [zA, zS, zZ, Act.put, zP, zQ, zR]
        refine Node.tk 5 ?_ rfl ?_ ?_
        rotate_left
        · intro w hSw; (try dsimp only at hSw); go_simp; try with_reducible rfl
        simp only [zA, zS, zZ, Act.put, zP, zQ, zR]
        refine Node.tk 6 ?_ rfl ?_ ?_
        rotate_left
        · intro w hSw; (try dsimp only at hSw); go_simp; try with_reducible rfl
        simp only [zA, zS, zZ, Act.put, zP, zQ, zR]
        refine Node.tk 7 ?_ rfl ?_ ?_
        rotate_left
        · intro w hSw; (try dsimp only at hSw); go_simp; try with_reducible rfl
        simp only [zA, zS, zZ, Act.put, zP, zQ, zR]
        refine Node.on 9 rfl (fun K hK => ?_)
        have N6 := new_at (w := V) rfl (.cells #[.int .u8 0, .int .u8 0, .slice none 0 0] 41)
        have b := below_new V (.cells #[.int .u8 0, .int .u8 0, .slice none 0 0] 41)
        refine Node.wp_new 41 (.agg #[.int .u8 0, .int .u8 0, .slice none 0 0]) #[.int .u8 0, .int .u8 0, .slice none 0 0] (by kernel_rfl) rfl (by rfl) ?_
        have n6 := Bb.size
        replace Bb := below_step Bb b
        replace L0 := L0.later b
        replace hT0 := hT0.below b
        try replace hs := hs.later b
        try replace hp := hp.later b
        try (have n56 := lt_of_at N5.at_; replace N5 := N5.later b)
        clear b
        generalize V.heap.size = g6 at *
        generalize V.alloc (.cells #[.int .u8 0, .int .u8 0, .slice none 0 0] 41) = V at *
        try replace n56 := Ne.symm (Nat.ne_of_lt n56)
        refine hK.out _ _ L0 (fun _ => ?_)
        clear hK K
        try simp only [zA, zS, zZ, Act.put, zP, zQ, zR]
        refine Node.on 10 rfl (fun K hK => ?_)
        refine wp_st_lk N5 rfl rfl rfl rfl ?_
        have hn5 := lt_of_at N5.at_
        replace L0 := L0.far3 (g' := g5) (by omega) s2 0 0
        replace N6 := frame_far3 N6 (g' := g5) n56 s2 0 0
        have N5' := N5.set3 s2 0 0
        replace Bb := ((Bb.setCell (p := ⟨g5, 0, none⟩) n5 (.int .i64 s2)).setCell (p := ⟨g5, 1, none⟩) n5 (.int .i64 0)).setCell (p := ⟨g5, 2, none⟩) n5 (.int .i64 0)
        replace hp : SliceAt (((V.setCell ⟨g5, 0, none⟩ (.int .i64 s2)).setCell ⟨g5, 1, none⟩ (.int .i64 0)).setCell ⟨g5, 2, none⟩ (.int .i64 0)) 1 (.slice A3 (fD n2).2.2.length c3) (fD n2).2.2.length (u8s (fD n2).2.2) := slice_zero hp rfl
        clear N5 hT0 hn5
        generalize ((V.setCell ⟨g5, 0, none⟩ (.int .i64 s2)).setCell ⟨g5, 1, none⟩ (.int .i64 0)).setCell ⟨g5, 2, none⟩ (.int .i64 0) = V at *
        refine hK.out _ _ L0 (fun _ => ?_)
        clear hK K
        try simp only [zA, zS, zZ, Act.put, zP, zQ, zR]
        refine Node.on 11 rfl (fun K hK => ?_)
        refine wp_st_fr N6 rfl rfl rfl rfl ?_
        have F := FV.mk3 (f := (fD n2)) N6 hp rfl
        have hn6 := lt_of_at N6
        replace L0 := L0.at_
        replace L0 : LVar (((V.setCell ⟨g6, 0, none⟩ (.int .u8 ((fD n2).1.toNat : Int))).setCell ⟨g6, 1, none⟩ (.int .u8 ((fD n2).2.1.toNat : Int))).setCell ⟨g6, 2, none⟩ (.slice A3 (fD n2).2.2.length c3)) g8 (-1) q1 0 := ⟨frame_far3' L0 (by omega) _ _ _⟩
        replace N5' : LVar (((V.setCell ⟨g6, 0, none⟩ (.int .u8 ((fD n2).1.toNat : Int))).setCell ⟨g6, 1, none⟩ (.int .u8 ((fD n2).2.1.toNat : Int))).setCell ⟨g6, 2, none⟩ (.slice A3 (fD n2).2.2.length c3)) g5 s2 0 0 := ⟨frame_far3' N5'.at_ (Ne.symm n56) _ _ _⟩
        replace Bb := ((Bb.setCell (p := ⟨g6, 0, none⟩) n6 (.int .u8 ((fD n2).1.toNat : Int))).setCell (p := ⟨g6, 1, none⟩) n6 (.int .u8 ((fD n2).2.1.toNat : Int))).setCell (p := ⟨g6, 2, none⟩) n6 (.slice A3 (fD n2).2.2.length c3)
        clear N6 hp
        generalize ((V.setCell ⟨g6, 0, none⟩ (.int .u8 ((fD n2).1.toNat : Int))).setCell ⟨g6, 1, none⟩ (.int .u8 ((fD n2).2.1.toNat : Int))).setCell ⟨g6, 2, none⟩ (.slice A3 (fD n2).2.2.length c3) = V at *
        refine hK.out _ _ L0 (fun _ => ?_)
        clear hK K
        try simp only [zA, zS, zZ, Act.put, zP, zQ, zR]
        refine Node.tk 12 ?_ rfl ?_ ?_
        rotate_left
        · intro w hSw; (try dsimp only at hSw); go_simp; try with_reducible rfl
        simp only [zA, zS, zZ, Act.put, zP, zQ, zR]
        refine wpAnyH_done (by kernel_rfl) ?_ _
        exact ⟨g5, g6, ⟨rfl, rfl, by simp⟩, N5', F, Bb⟩
      · skip
        have N6 := new_at (w := V) rfl (.cells #[.int .u8 0, .int .u8 0, .slice none 0 0] 41)
        have b := below_new V (.cells #[.int .u8 0, .int .u8 0, .slice none 0 0] 41)
        refine Node.wp_new 41 (.agg #[.int .u8 0, .int .u8 0, .slice none 0 0]) #[.int .u8 0, .int .u8 0, .slice none 0 0] (by kernel_rfl) rfl (by rfl) ?_
        have n6 := Bb.size
        replace Bb := below_step Bb b
        replace L0 := L0.later b
        replace hT0 := hT0.below b
        try replace hs := hs.later b
        try replace hp := hp.later b
        try (have n56 := lt_of_at N5.at_; replace N5 := N5.later b)
        clear b
        generalize V.heap.size = g6 at *
        generalize V.alloc (.cells #[.int .u8 0, .int .u8 0, .slice none 0 0] 41) = V at *
        try replace n56 := Ne.symm (Nat.ne_of_lt n56)
        refine hK.out _ _ L0 (fun _ => ?_)
        clear hK K
        try simp only [zA, zS, zZ, Act.put, zP, zQ, zR]
        refine Node.on 3 rfl (fun K hK => ?_)
        refine Node.wp_fn 11 [.tmp 75, .const (.int .u8 2), .tmp 77] _ [lkv (-1, q1, 0), .int .u8 2, .slice Ap X.length cp] (by rfl) (by rfl) (enters Tryd.func11 (by kernel_rfl) rfl) (Hear_v (-1, q1, 0) 2 (.slice Ap X.length cp) X V _ HR.out hT0 hs HL.out) ?_
        rintro e V' ⟨A3, c3, rfl, b, hp, hq⟩
        clear hq
        refine ⟨_, rfl, ?_⟩
        replace Bb := below_step Bb b
        replace L0 := L0.later b
        replace hT0 := hT0.below b
        try replace N5 := N5.later b
        try replace N6 := below_at b N6 (lt_of_at N6)
        clear b hs
        generalize V' = V at *
        refine hK.out _ _ L0 (fun _ => ?_)
        clear hK K
        try simp only [zA, zS, zZ, Act.put, zP, zQ, zR]
        refine Node.tk 4 ?_ rfl ?_ ?_
        rotate_left
        · intro w hSw; (try dsimp only at hSw); go_simp; try with_reducible rfl
        simp only [zA, zS, zZ, Act.put, zP, zQ, zR]
        refine Node.tk 5 ?_ rfl ?_ ?_
        rotate_left
        · intro w hSw; (try dsimp only at hSw); go_simp; try with_reducible rfl
        simp only [zA, zS, zZ, Act.put, zP, zQ, zR]
        refine Node.tk 6 ?_ rfl ?_ ?_
        rotate_left
        · intro w hSw; (try dsimp only at hSw); go_simp; try with_reducible rfl
        simp only [zA, zS, zZ, Act.put, zP, zQ, zR]
        refine Node.tk 7 ?_ rfl ?_ ?_
        rotate_left
        · intro w hSw; (try dsimp only at hSw); go_simp; try with_reducible rfl
        simp only [zA, zS, zZ, Act.put, zP, zQ, zR]
        refine Node.on 10 rfl (fun K hK => ?_)
        refine wp_st_lk N5 rfl rfl rfl rfl ?_
        have hn5 := lt_of_at N5.at_
        replace L0 := L0.far3 (g' := g5) (by omega) s2 0 0
        replace N6 := frame_far3 N6 (g' := g5) n56 s2 0 0
        have N5' := N5.set3 s2 0 0
        replace Bb := ((Bb.setCell (p := ⟨g5, 0, none⟩) n5 (.int .i64 s2)).setCell (p := ⟨g5, 1, none⟩) n5 (.int .i64 0)).setCell (p := ⟨g5, 2, none⟩) n5 (.int .i64 0)
        replace hp : SliceAt (((V.setCell ⟨g5, 0, none⟩ (.int .i64 s2)).setCell ⟨g5, 1, none⟩ (.int .i64 0)).setCell ⟨g5, 2, none⟩ (.int .i64 0)) 1 (.slice A3 (fD n2).2.2.length c3) (fD n2).2.2.length (u8s (fD n2).2.2) := slice_zero hp rfl
        clear N5 hT0 hn5
        generalize ((V.setCell ⟨g5, 0, none⟩ (.int .i64 s2)).setCell ⟨g5, 1, none⟩ (.int .i64 0)).setCell ⟨g5, 2, none⟩ (.int .i64 0) = V at *
        refine hK.out _ _ L0 (fun _ => ?_)
        clear hK K
        try simp only [zA, zS, zZ, Act.put, zP, zQ, zR]
        refine Node.on 11 rfl (fun K hK => ?_)
        refine wp_st_fr N6 rfl rfl rfl rfl ?_
        have F := FV.mk3 (f := (fD n2)) N6 hp rfl
        have hn6 := lt_of_at N6
        replace L0 := L0.at_
        replace L0 : LVar (((V.setCell ⟨g6, 0, none⟩ (.int .u8 ((fD n2).1.toNat : Int))).setCell ⟨g6, 1, none⟩ (.int .u8 ((fD n2).2.1.toNat : Int))).setCell ⟨g6, 2, none⟩ (.slice A3 (fD n2).2.2.length c3)) g8 (-1) q1 0 := ⟨frame_far3' L0 (by omega) _ _ _⟩
        replace N5' : LVar (((V.setCell ⟨g6, 0, none⟩ (.int .u8 ((fD n2).1.toNat : Int))).setCell ⟨g6, 1, none⟩ (.int .u8 ((fD n2).2.1.toNat : Int))).setCell ⟨g6, 2, none⟩ (.slice A3 (fD n2).2.2.length c3)) g5 s2 0 0 := ⟨frame_far3' N5'.at_ (Ne.symm n56) _ _ _⟩
        replace Bb := ((Bb.setCell (p := ⟨g6, 0, none⟩) n6 (.int .u8 ((fD n2).1.toNat : Int))).setCell (p := ⟨g6, 1, none⟩) n6 (.int .u8 ((fD n2).2.1.toNat : Int))).setCell (p := ⟨g6, 2, none⟩) n6 (.slice A3 (fD n2).2.2.length c3)
        clear N6 hp
        generalize ((V.setCell ⟨g6, 0, none⟩ (.int .u8 ((fD n2).1.toNat : Int))).setCell ⟨g6, 1, none⟩ (.int .u8 ((fD n2).2.1.toNat : Int))).setCell ⟨g6, 2, none⟩ (.slice A3 (fD n2).2.2.length c3) = V at *
        refine hK.out _ _ L0 (fun _ => ?_)
        clear hK K
        try simp only [zA, zS, zZ, Act.put, zP, zQ, zR]
        refine Node.tk 12 ?_ rfl ?_ ?_
        rotate_left
        · intro w hSw; (try dsimp only at hSw); go_simp; try with_reducible rfl
        simp only [zA, zS, zZ, Act.put, zP, zQ, zR]
        refine wpAnyH_done (by kernel_rfl) ?_ _
        exact ⟨g5, g6, ⟨rfl, rfl, by simp⟩, N5', F, Bb⟩
    · skip
      have N6 := new_at (w := V) rfl (.cells #[.int .u8 0, .int .u8 0, .slice none 0 0] 41)
      have b := below_new V (.cells #[.int .u8 0, .int .u8 0, .slice none 0 0] 41)
      refine Node.wp_new 41 (.agg #[.int .u8 0, .int .u8 0, .slice none 0 0]) #[.int .u8 0, .int .u8 0, .slice none 0 0] (by kernel_rfl) rfl (by rfl) ?_
      have n6 := Bb.size
      replace Bb := below_step Bb b
      replace L0 := L0.later b
      replace hT0 := hT0.below b
      try replace hs := hs.later b
      try replace hp := hp.later b
      try (have n56 := lt_of_at N5.at_; replace N5 := N5.later b)
      clear b
      generalize V.heap.size = g6 at *
      generalize V.alloc (.cells #[.int .u8 0, .int .u8 0, .slice none 0 0] 41) = V at *
      try replace n56 := Ne.symm (Nat.ne_of_lt n56)
      refine hK.out _ _ L0 (fun _ => ?_)
      clear hK K
      try simp only [zA, zS, zZ, Act.put, zP, zQ, zR]
      refine Node.on 2 rfl (fun K hK => ?_)
      refine Node.wp_fn 31 [.tmp 76] _ [.int .u8 s2] (by rfl) (by rfl) (enters Tryd.func31 (by kernel_rfl) rfl) (panel_c n2 s2 HN2.out X HX.out V) ?_
      rintro e V' ⟨b, Ap, cp, rfl, hs⟩
      refine ⟨_, rfl, ?_⟩
      replace Bb := below_step Bb b
      replace L0 := L0.later b
      replace hT0 := hT0.below b
      try replace N5 := N5.later b
      try replace N6 := below_at b N6 (lt_of_at N6)
      clear b
      generalize V' = V at *
      refine hK.out _ _ L0 (fun _ => ?_)
      clear hK K
      try simp only [zA, zS, zZ, Act.put, zP, zQ, zR]
      refine Node.on 3 rfl (fun K hK => ?_)
      refine Node.wp_fn 11 [.tmp 75, .const (.int .u8 2), .tmp 77] _ [lkv (-1, q1, 0), .int .u8 2, .slice Ap X.length cp] (by rfl) (by rfl) (enters Tryd.func11 (by kernel_rfl) rfl) (Hear_v (-1, q1, 0) 2 (.slice Ap X.length cp) X V _ HR.out hT0 hs HL.out) ?_
      rintro e V' ⟨A3, c3, rfl, b, hp, hq⟩
      clear hq
      refine ⟨_, rfl, ?_⟩
      replace Bb := below_step Bb b
      replace L0 := L0.later b
      replace hT0 := hT0.below b
      try replace N5 := N5.later b
      try replace N6 := below_at b N6 (lt_of_at N6)
      clear b hs
      generalize V' = V at *
      refine hK.out _ _ L0 (fun _ => ?_)
      clear hK K
      try simp only [zA, zS, zZ, Act.put, zP, zQ, zR]
      refine Node.tk 4 ?_ rfl ?_ ?_
      rotate_left
      · intro w hSw; (try dsimp only at hSw); go_simp; try with_reducible rfl
      simp only [zA, zS, zZ, Act.put, zP, zQ, zR]
      refine Node.tk 5 ?_ rfl ?_ ?_
      rotate_left
      · intro w hSw; (try dsimp only at hSw); go_simp; try with_reducible rfl
      simp only [zA, zS, zZ, Act.put, zP, zQ, zR]
      refine Node.tk 6 ?_ rfl ?_ ?_
      rotate_left
      · intro w hSw; (try dsimp only at hSw); go_simp; try with_reducible rfl
      simp only [zA, zS, zZ, Act.put, zP, zQ, zR]
      refine Node.tk 7 ?_ rfl ?_ ?_
      rotate_left
      · intro w hSw; (try dsimp only at hSw); go_simp; try with_reducible rfl
      simp only [zA, zS, zZ, Act.put, zP, zQ, zR]
      refine Node.on 10 rfl (fun K hK => ?_)
      refine wp_st_lk N5 rfl rfl rfl rfl ?_
      have hn5 := lt_of_at N5.at_
      replace L0 := L0.far3 (g' := g5) (by omega) s2 0 0
      replace N6 := frame_far3 N6 (g' := g5) n56 s2 0 0
      have N5' := N5.set3 s2 0 0
      replace Bb := ((Bb.setCell (p := ⟨g5, 0, none⟩) n5 (.int .i64 s2)).setCell (p := ⟨g5, 1, none⟩) n5 (.int .i64 0)).setCell (p := ⟨g5, 2, none⟩) n5 (.int .i64 0)
      replace hp : SliceAt (((V.setCell ⟨g5, 0, none⟩ (.int .i64 s2)).setCell ⟨g5, 1, none⟩ (.int .i64 0)).setCell ⟨g5, 2, none⟩ (.int .i64 0)) 1 (.slice A3 (fD n2).2.2.length c3) (fD n2).2.2.length (u8s (fD n2).2.2) := slice_zero hp rfl
      clear N5 hT0 hn5
      generalize ((V.setCell ⟨g5, 0, none⟩ (.int .i64 s2)).setCell ⟨g5, 1, none⟩ (.int .i64 0)).setCell ⟨g5, 2, none⟩ (.int .i64 0) = V at *
      refine hK.out _ _ L0 (fun _ => ?_)
      clear hK K
      try simp only [zA, zS, zZ, Act.put, zP, zQ, zR]
      refine Node.on 11 rfl (fun K hK => ?_)
      refine wp_st_fr N6 rfl rfl rfl rfl ?_
      have F := FV.mk3 (f := (fD n2)) N6 hp rfl
      have hn6 := lt_of_at N6
      replace L0 := L0.at_
      replace L0 : LVar (((V.setCell ⟨g6, 0, none⟩ (.int .u8 ((fD n2).1.toNat : Int))).setCell ⟨g6, 1, none⟩ (.int .u8 ((fD n2).2.1.toNat : Int))).setCell ⟨g6, 2, none⟩ (.slice A3 (fD n2).2.2.length c3)) g8 (-1) q1 0 := ⟨frame_far3' L0 (by omega) _ _ _⟩
      replace N5' : LVar (((V.setCell ⟨g6, 0, none⟩ (.int .u8 ((fD n2).1.toNat : Int))).setCell ⟨g6, 1, none⟩ (.int .u8 ((fD n2).2.1.toNat : Int))).setCell ⟨g6, 2, none⟩ (.slice A3 (fD n2).2.2.length c3)) g5 s2 0 0 := ⟨frame_far3' N5'.at_ (Ne.symm n56) _ _ _⟩
      replace Bb := ((Bb.setCell (p := ⟨g6, 0, none⟩) n6 (.int .u8 ((fD n2).1.toNat : Int))).setCell (p := ⟨g6, 1, none⟩) n6 (.int .u8 ((fD n2).2.1.toNat : Int))).setCell (p := ⟨g6, 2, none⟩) n6 (.slice A3 (fD n2).2.2.length c3)
      clear N6 hp
      generalize ((V.setCell ⟨g6, 0, none⟩ (.int .u8 ((fD n2).1.toNat : Int))).setCell ⟨g6, 1, none⟩ (.int .u8 ((fD n2).2.1.toNat : Int))).setCell ⟨g6, 2, none⟩ (.slice A3 (fD n2).2.2.length c3) = V at *
      refine hK.out _ _ L0 (fun _ => ?_)
      clear hK K
      try simp only [zA, zS, zZ, Act.put, zP, zQ, zR]
      refine Node.tk 12 ?_ rfl ?_ ?_
      rotate_left
      · intro w hSw; (try dsimp only at hSw); go_simp; try with_reducible rfl
      simp only [zA, zS, zZ, Act.put, zP, zQ, zR]
      refine wpAnyH_done (by kernel_rfl) ?_ _
      exact ⟨g5, g6, ⟨rfl, rfl, by simp⟩, N5', F, Bb⟩
  · skip
    have N6 := new_at (w := V) rfl (.cells #[.int .u8 0, .int .u8 0, .slice none 0 0] 41)
    have b := below_new V (.cells #[.int .u8 0, .int .u8 0, .slice none 0 0] 41)
    refine Node.wp_new 41 (.agg #[.int .u8 0, .int .u8 0, .slice none 0 0]) #[.int .u8 0, .int .u8 0, .slice none 0 0] (by kernel_rfl) rfl (by rfl) ?_
    have n6 := Bb.size
    replace Bb := below_step Bb b
    replace L0 := L0.later b
    replace hT0 := hT0.below b
    try replace hs := hs.later b
    try replace hp := hp.later b
    try (have n56 := lt_of_at N5.at_; replace N5 := N5.later b)
    clear b
    generalize V.heap.size = g6 at *
    generalize V.alloc (.cells #[.int .u8 0, .int .u8 0, .slice none 0 0] 41) = V at *
    try replace n56 := Ne.symm (Nat.ne_of_lt n56)
    refine hK.out _ _ L0 (fun _ => ?_)
    clear hK K
    try simp only [zA, zS, zZ, Act.put, zP, zQ, zR]
    refine wpAnyH_ready (rs := [2, 8]) (by kernel_rfl) (by simp) ?_
    refine AllReadyH.cons rfl (fun K hK => ?_) (AllReadyH.cons rfl (fun K hK => ?_) AllReadyH.nil)
    · skip
      refine Node.wp_fn 31 [.tmp 76] _ [.int .u8 s2] (by rfl) (by rfl) (enters Tryd.func31 (by kernel_rfl) rfl) (panel_c n2 s2 HN2.out X HX.out V) ?_
      rintro e V' ⟨b, Ap, cp, rfl, hs⟩
      refine ⟨_, rfl, ?_⟩
      replace Bb := below_step Bb b
      replace L0 := L0.later b
      replace hT0 := hT0.below b
      try replace N5 := N5.later b
      try replace N6 := below_at b N6 (lt_of_at N6)
      clear b
      generalize V' = V at *
      refine hK.out _ _ L0 (fun _ => ?_)
      clear hK K
      try simp only [zA, zS, zZ, Act.put, zP, zQ, zR]
      refine wpAnyH_ready (rs := [3, 8]) (by kernel_rfl) (by simp) ?_
      refine AllReadyH.cons rfl (fun K hK => ?_) (AllReadyH.cons rfl (fun K hK => ?_) AllReadyH.nil)
      · skip
        refine Node.wp_fn 11 [.tmp 75, .const (.int .u8 2), .tmp 77] _ [lkv (-1, q1, 0), .int .u8 2, .slice Ap X.length cp] (by rfl) (by rfl) (enters Tryd.func11 (by kernel_rfl) rfl) (Hear_v (-1, q1, 0) 2 (.slice Ap X.length cp) X V _ HR.out hT0 hs HL.out) ?_
        rintro e V' ⟨A3, c3, rfl, b, hp, hq⟩
        clear hq
        refine ⟨_, rfl, ?_⟩
        replace Bb := below_step Bb b
        replace L0 := L0.later b
        replace hT0 := hT0.below b
        try replace N5 := N5.later b
        try replace N6 := below_at b N6 (lt_of_at N6)
        clear b hs
        generalize V' = V at *
        refine hK.out _ _ L0 (fun _ => ?_)
        clear hK K
        try simp only [zA, zS, zZ, Act.put, zP, zQ, zR]
        refine Node.tk 4 ?_ rfl ?_ ?_
        rotate_left
        · intro w hSw; (try dsimp only at hSw); go_simp; try with_reducible rfl
        simp only [zA, zS, zZ, Act.put, zP, zQ, zR]
        refine Node.tk 5 ?_ rfl ?_ ?_
        rotate_left
        · intro w hSw; (try dsimp only at hSw); go_simp; try with_reducible rfl
        simp only [zA, zS, zZ, Act.put, zP, zQ, zR]
        refine Node.tk 6 ?_ rfl ?_ ?_
        rotate_left
        · intro w hSw; (try dsimp only at hSw); go_simp; try with_reducible rfl
        simp only [zA, zS, zZ, Act.put, zP, zQ, zR]
        refine Node.tk 7 ?_ rfl ?_ ?_
        rotate_left
        · intro w hSw; (try dsimp only at hSw); go_simp; try with_reducible rfl
        simp only [zA, zS, zZ, Act.put, zP, zQ, zR]
        refine Node.on 8 rfl (fun K hK => ?_)
        have N5 := LVar.new V 0 0 0
        have b := below_new V (.cells #[.int .i64 0, .int .i64 0, .int .i64 0] 31)
        refine Node.wp_new 31 (.agg #[.int .i64 0, .int .i64 0, .int .i64 0]) #[.int .i64 0, .int .i64 0, .int .i64 0] (by kernel_rfl) rfl (by rfl) ?_
        have n5 := Bb.size
        replace Bb := below_step Bb b
        replace L0 := L0.later b
        replace hT0 := hT0.below b
        try replace hs := hs.later b
        try replace hp := hp.later b
        try (have n56 := lt_of_at N6; replace N6 := below_at b N6 n56)
        clear b
        generalize V.heap.size = g5 at *
        generalize V.alloc (.cells #[.int .i64 0, .int .i64 0, .int .i64 0] 31) = V at *
        try replace n56 := Nat.ne_of_lt n56
        refine hK.out _ _ L0 (fun _ => ?_)
        clear hK K
        try simp only [zA, zS, zZ, Act.put, zP, zQ, zR]
        refine Node.on 10 rfl (fun K hK => ?_)
        refine wp_st_lk N5 rfl rfl rfl rfl ?_
        have hn5 := lt_of_at N5.at_
        replace L0 := L0.far3 (g' := g5) (by omega) s2 0 0
        replace N6 := frame_far3 N6 (g' := g5) n56 s2 0 0
        have N5' := N5.set3 s2 0 0
        replace Bb := ((Bb.setCell (p := ⟨g5, 0, none⟩) n5 (.int .i64 s2)).setCell (p := ⟨g5, 1, none⟩) n5 (.int .i64 0)).setCell (p := ⟨g5, 2, none⟩) n5 (.int .i64 0)
        replace hp : SliceAt (((V.setCell ⟨g5, 0, none⟩ (.int .i64 s2)).setCell ⟨g5, 1, none⟩ (.int .i64 0)).setCell ⟨g5, 2, none⟩ (.int .i64 0)) 1 (.slice A3 (fD n2).2.2.length c3) (fD n2).2.2.length (u8s (fD n2).2.2) := slice_zero hp rfl
        clear N5 hT0 hn5
        generalize ((V.setCell ⟨g5, 0, none⟩ (.int .i64 s2)).setCell ⟨g5, 1, none⟩ (.int .i64 0)).setCell ⟨g5, 2, none⟩ (.int .i64 0) = V at *
        refine hK.out _ _ L0 (fun _ => ?_)
        clear hK K
        try simp only [zA, zS, zZ, Act.put, zP, zQ, zR]
        refine Node.on 11 rfl (fun K hK => ?_)
        refine wp_st_fr N6 rfl rfl rfl rfl ?_
        have F := FV.mk3 (f := (fD n2)) N6 hp rfl
        have hn6 := lt_of_at N6
        replace L0 := L0.at_
        replace L0 : LVar (((V.setCell ⟨g6, 0, none⟩ (.int .u8 ((fD n2).1.toNat : Int))).setCell ⟨g6, 1, none⟩ (.int .u8 ((fD n2).2.1.toNat : Int))).setCell ⟨g6, 2, none⟩ (.slice A3 (fD n2).2.2.length c3)) g8 (-1) q1 0 := ⟨frame_far3' L0 (by omega) _ _ _⟩
        replace N5' : LVar (((V.setCell ⟨g6, 0, none⟩ (.int .u8 ((fD n2).1.toNat : Int))).setCell ⟨g6, 1, none⟩ (.int .u8 ((fD n2).2.1.toNat : Int))).setCell ⟨g6, 2, none⟩ (.slice A3 (fD n2).2.2.length c3)) g5 s2 0 0 := ⟨frame_far3' N5'.at_ (Ne.symm n56) _ _ _⟩
        replace Bb := ((Bb.setCell (p := ⟨g6, 0, none⟩) n6 (.int .u8 ((fD n2).1.toNat : Int))).setCell (p := ⟨g6, 1, none⟩) n6 (.int .u8 ((fD n2).2.1.toNat : Int))).setCell (p := ⟨g6, 2, none⟩) n6 (.slice A3 (fD n2).2.2.length c3)
        clear N6 hp
        generalize ((V.setCell ⟨g6, 0, none⟩ (.int .u8 ((fD n2).1.toNat : Int))).setCell ⟨g6, 1, none⟩ (.int .u8 ((fD n2).2.1.toNat : Int))).setCell ⟨g6, 2, none⟩ (.slice A3 (fD n2).2.2.length c3) = V at *
        refine hK.out _ _ L0 (fun _ => ?_)
        clear hK K
        try simp only [zA, zS, zZ, Act.put, zP, zQ, zR]
        refine Node.tk 12 ?_ rfl ?_ ?_
        rotate_left
        · intro w hSw; (try dsimp only at hSw); go_simp; try with_reducible rfl
        simp only [zA, zS, zZ, Act.put, zP, zQ, zR]
        refine wpAnyH_done (by kernel_rfl) ?_ _
        exact ⟨g5, g6, ⟨rfl, rfl, by simp⟩, N5', F, Bb⟩
      · skip
        have N5 := LVar.new V 0 0 0
        have b := below_new V (.cells #[.int .i64 0, .int .i64 0, .int .i64 0] 31)
        refine Node.wp_new 31 (.agg #[.int .i64 0, .int .i64 0, .int .i64 0]) #[.int .i64 0, .int .i64 0, .int .i64 0] (by kernel_rfl) rfl (by rfl) ?_
        have n5 := Bb.size
        replace Bb := below_step Bb b
        replace L0 := L0.later b
        replace hT0 := hT0.below b
        try replace hs := hs.later b
        try replace hp := hp.later b
        try (have n56 := lt_of_at N6; replace N6 := below_at b N6 n56)
        clear b
        generalize V.heap.size = g5 at *
        generalize V.alloc (.cells #[.int .i64 0, .int .i64 0, .int .i64 0] 31) = V at *
        try replace n56 := Nat.ne_of_lt n56
        refine hK.out _ _ L0 (fun _ => ?_)
        clear hK K
        try simp only [zA, zS, zZ, Act.put, zP, zQ, zR]
        refine Node.on 3 rfl (fun K hK => ?_)
        refine Node.wp_fn 11 [.tmp 75, .const (.int .u8 2), .tmp 77] _ [lkv (-1, q1, 0), .int .u8 2, .slice Ap X.length cp] (by rfl) (by rfl) (enters Tryd.func11 (by kernel_rfl) rfl) (Hear_v (-1, q1, 0) 2 (.slice Ap X.length cp) X V _ HR.out hT0 hs HL.out) ?_
        rintro e V' ⟨A3, c3, rfl, b, hp, hq⟩
        clear hq
        refine ⟨_, rfl, ?_⟩
        replace Bb := below_step Bb b
        replace L0 := L0.later b
        replace hT0 := hT0.below b
        try replace N5 := N5.later b
        try replace N6 := below_at b N6 (lt_of_at N6)
        clear b hs
        generalize V' = V at *
        refine hK.out _ _ L0 (fun _ => ?_)
        clear hK K
        try simp only [zA, zS, zZ, Act.put, zP, zQ, zR]
        refine Node.tk 4 ?_ rfl ?_ ?_
        rotate_left
        · intro w hSw; (try dsimp only at hSw); go_simp; try with_reducible rfl
        simp only [zA, zS, zZ, Act.put, zP, zQ, zR]
        refine Node.tk 5 ?_ rfl ?_ ?_
        rotate_left
        · intro w hSw; (try dsimp only at hSw); go_simp; try with_reducible rfl
        simp only [zA, zS, zZ, Act.put, zP, zQ, zR]
        refine Node.tk 6 ?_ rfl ?_ ?_
        rotate_left
        · intro w hSw; (try dsimp only at hSw); go_simp; try with_reducible rfl
        simp only [zA, zS, zZ, Act.put, zP, zQ, zR]
        refine Node.tk 7 ?_ rfl ?_ ?_
        rotate_left
        · intro w hSw; (try dsimp only at hSw); go_simp; try with_reducible rfl
        simp only [zA, zS, zZ, Act.put, zP, zQ, zR]
        refine Node.on 10 rfl (fun K hK => ?_)
        refine wp_st_lk N5 rfl rfl rfl rfl ?_
        have hn5 := lt_of_at N5.at_
        replace L0 := L0.far3 (g' := g5) (by omega) s2 0 0
        replace N6 := frame_far3 N6 (g' := g5) n56 s2 0 0
        have N5' := N5.set3 s2 0 0
        replace Bb := ((Bb.setCell (p := ⟨g5, 0, none⟩) n5 (.int .i64 s2)).setCell (p := ⟨g5, 1, none⟩) n5 (.int .i64 0)).setCell (p := ⟨g5, 2, none⟩) n5 (.int .i64 0)
        replace hp : SliceAt (((V.setCell ⟨g5, 0, none⟩ (.int .i64 s2)).setCell ⟨g5, 1, none⟩ (.int .i64 0)).setCell ⟨g5, 2, none⟩ (.int .i64 0)) 1 (.slice A3 (fD n2).2.2.length c3) (fD n2).2.2.length (u8s (fD n2).2.2) := slice_zero hp rfl
        clear N5 hT0 hn5
        generalize ((V.setCell ⟨g5, 0, none⟩ (.int .i64 s2)).setCell ⟨g5, 1, none⟩ (.int .i64 0)).setCell ⟨g5, 2, none⟩ (.int .i64 0) = V at *
        refine hK.out _ _ L0 (fun _ => ?_)
        clear hK K
        try simp only [zA, zS, zZ, Act.put, zP, zQ, zR]
        refine Node.on 11 rfl (fun K hK => ?_)
        refine wp_st_fr N6 rfl rfl rfl rfl ?_
        have F := FV.mk3 (f := (fD n2)) N6 hp rfl
        have hn6 := lt_of_at N6
        replace L0 := L0.at_
        replace L0 : LVar (((V.setCell ⟨g6, 0, none⟩ (.int .u8 ((fD n2).1.toNat : Int))).setCell ⟨g6, 1, none⟩ (.int .u8 ((fD n2).2.1.toNat : Int))).setCell ⟨g6, 2, none⟩ (.slice A3 (fD n2).2.2.length c3)) g8 (-1) q1 0 := ⟨frame_far3' L0 (by omega) _ _ _⟩
        replace N5' : LVar (((V.setCell ⟨g6, 0, none⟩ (.int .u8 ((fD n2).1.toNat : Int))).setCell ⟨g6, 1, none⟩ (.int .u8 ((fD n2).2.1.toNat : Int))).setCell ⟨g6, 2, none⟩ (.slice A3 (fD n2).2.2.length c3)) g5 s2 0 0 := ⟨frame_far3' N5'.at_ (Ne.symm n56) _ _ _⟩
        replace Bb := ((Bb.setCell (p := ⟨g6, 0, none⟩) n6 (.int .u8 ((fD n2).1.toNat : Int))).setCell (p := ⟨g6, 1, none⟩) n6 (.int .u8 ((fD n2).2.1.toNat : Int))).setCell (p := ⟨g6, 2, none⟩) n6 (.slice A3 (fD n2).2.2.length c3)
        clear N6 hp
        generalize ((V.setCell ⟨g6, 0, none⟩ (.int .u8 ((fD n2).1.toNat : Int))).setCell ⟨g6, 1, none⟩ (.int .u8 ((fD n2).2.1.toNat : Int))).setCell ⟨g6, 2, none⟩ (.slice A3 (fD n2).2.2.length c3) = V at *
        refine hK.out _ _ L0 (fun _ => ?_)
        clear hK K
        try simp only [zA, zS, zZ, Act.put, zP, zQ, zR]
        refine Node.tk 12 ?_ rfl ?_ ?_
        rotate_left
        · intro w hSw; (try dsimp only at hSw); go_simp; try with_reducible rfl
        simp only [zA, zS, zZ, Act.put, zP, zQ, zR]
        refine wpAnyH_done (by kernel_rfl) ?_ _
        exact ⟨g5, g6, ⟨rfl, rfl, by simp⟩, N5', F, Bb⟩
    · skip
      have N5 := LVar.new V 0 0 0
      have b := below_new V (.cells #[.int .i64 0, .int .i64 0, .int .i64 0] 31)
      refine Node.wp_new 31 (.agg #[.int .i64 0, .int .i64 0, .int .i64 0]) #[.int .i64 0, .int .i64 0, .int .i64 0] (by kernel_rfl) rfl (by rfl) ?_
      have n5 := Bb.size
      replace Bb := below_step Bb b
      replace L0 := L0.later b
      replace hT0 := hT0.below b
      try replace hs := hs.later b
      try replace hp := hp.later b
      try (have n56 := lt_of_at N6; replace N6 := below_at b N6 n56)
      clear b
      generalize V.heap.size = g5 at *
      generalize V.alloc (.cells #[.int .i64 0, .int .i64 0, .int .i64 0] 31) = V at *
      try replace n56 := Nat.ne_of_lt n56
      refine hK.out _ _ L0 (fun _ => ?_)
      clear hK K
      try simp only [zA, zS, zZ, Act.put, zP, zQ, zR]
      refine Node.on 2 rfl (fun K hK => ?_)
      refine Node.wp_fn 31 [.tmp 76] _ [.int .u8 s2] (by rfl) (by rfl) (enters Tryd.func31 (by kernel_rfl) rfl) (panel_c n2 s2 HN2.out X HX.out V) ?_
      rintro e V' ⟨b, Ap, cp, rfl, hs⟩
      refine ⟨_, rfl, ?_⟩
      replace Bb := below_step Bb b
      replace L0 := L0.later b
      replace hT0 := hT0.below b
      try replace N5 := N5.later b
      try replace N6 := below_at b N6 (lt_of_at N6)
      clear b
      generalize V' = V at *
      refine hK.out _ _ L0 (fun _ => ?_)
      clear hK K
      try simp only [zA, zS, zZ, Act.put, zP, zQ, zR]
      refine Node.on 3 rfl (fun K hK => ?_)
      refine Node.wp_fn 11 [.tmp 75, .const (.int .u8 2), .tmp 77] _ [lkv (-1, q1, 0), .int .u8 2, .slice Ap X.length cp] (by rfl) (by rfl) (enters Tryd.func11 (by kernel_rfl) rfl) (Hear_v (-1, q1, 0) 2 (.slice Ap X.length cp) X V _ HR.out hT0 hs HL.out) ?_
      rintro e V' ⟨A3, c3, rfl, b, hp, hq⟩
      clear hq
      refine ⟨_, rfl, ?_⟩
      replace Bb := below_step Bb b
      replace L0 := L0.later b
      replace hT0 := hT0.below b
      try replace N5 := N5.later b
      try replace N6 := below_at b N6 (lt_of_at N6)
      clear b hs
      generalize V' = V at *
      refine hK.out _ _ L0 (fun _ => ?_)
      clear hK K
      try simp only [zA, zS, zZ, Act.put, zP, zQ, zR]
      refine Node.tk 4 ?_ rfl ?_ ?_
      rotate_left
      · intro w hSw; (try dsimp only at hSw); go_simp; try with_reducible rfl
      simp only [zA, zS, zZ, Act.put, zP, zQ, zR]
      refine Node.tk 5 ?_ rfl ?_ ?_
      rotate_left
      · intro w hSw; (try dsimp only at hSw); go_simp; try with_reducible rfl
      simp only [zA, zS, zZ, Act.put, zP, zQ, zR]
      refine Node.tk 6 ?_ rfl ?_ ?_
      rotate_left
      · intro w hSw; (try dsimp only at hSw); go_simp; try with_reducible rfl
      simp only [zA, zS, zZ, Act.put, zP, zQ, zR]
      refine Node.tk 7 ?_ rfl ?_ ?_
      rotate_left
      · intro w hSw; (try dsimp only at hSw); go_simp; try with_reducible rfl
      simp only [zA, zS, zZ, Act.put, zP, zQ, zR]
      refine Node.on 10 rfl (fun K hK => ?_)
      refine wp_st_lk N5 rfl rfl rfl rfl ?_
      have hn5 := lt_of_at N5.at_
      replace L0 := L0.far3 (g' := g5) (by omega) s2 0 0
      replace N6 := frame_far3 N6 (g' := g5) n56 s2 0 0
      have N5' := N5.set3 s2 0 0
      replace Bb := ((Bb.setCell (p := ⟨g5, 0, none⟩) n5 (.int .i64 s2)).setCell (p := ⟨g5, 1, none⟩) n5 (.int .i64 0)).setCell (p := ⟨g5, 2, none⟩) n5 (.int .i64 0)
      replace hp : SliceAt (((V.setCell ⟨g5, 0, none⟩ (.int .i64 s2)).setCell ⟨g5, 1, none⟩ (.int .i64 0)).setCell ⟨g5, 2, none⟩ (.int .i64 0)) 1 (.slice A3 (fD n2).2.2.length c3) (fD n2).2.2.length (u8s (fD n2).2.2) := slice_zero hp rfl
      clear N5 hT0 hn5
      generalize ((V.setCell ⟨g5, 0, none⟩ (.int .i64 s2)).setCell ⟨g5, 1, none⟩ (.int .i64 0)).setCell ⟨g5, 2, none⟩ (.int .i64 0) = V at *
      refine hK.out _ _ L0 (fun _ => ?_)
      clear hK K
      try simp only [zA, zS, zZ, Act.put, zP, zQ, zR]
      refine Node.on 11 rfl (fun K hK => ?_)
      refine wp_st_fr N6 rfl rfl rfl rfl ?_
      have F := FV.mk3 (f := (fD n2)) N6 hp rfl
      have hn6 := lt_of_at N6
      replace L0 := L0.at_
      replace L0 : LVar (((V.setCell ⟨g6, 0, none⟩ (.int .u8 ((fD n2).1.toNat : Int))).setCell ⟨g6, 1, none⟩ (.int .u8 ((fD n2).2.1.toNat : Int))).setCell ⟨g6, 2, none⟩ (.slice A3 (fD n2).2.2.length c3)) g8 (-1) q1 0 := ⟨frame_far3' L0 (by omega) _ _ _⟩
      replace N5' : LVar (((V.setCell ⟨g6, 0, none⟩ (.int .u8 ((fD n2).1.toNat : Int))).setCell ⟨g6, 1, none⟩ (.int .u8 ((fD n2).2.1.toNat : Int))).setCell ⟨g6, 2, none⟩ (.slice A3 (fD n2).2.2.length c3)) g5 s2 0 0 := ⟨frame_far3' N5'.at_ (Ne.symm n56) _ _ _⟩
      replace Bb := ((Bb.setCell (p := ⟨g6, 0, none⟩) n6 (.int .u8 ((fD n2).1.toNat : Int))).setCell (p := ⟨g6, 1, none⟩) n6 (.int .u8 ((fD n2).2.1.toNat : Int))).setCell (p := ⟨g6, 2, none⟩) n6 (.slice A3 (fD n2).2.2.length c3)
      clear N6 hp
      generalize ((V.setCell ⟨g6, 0, none⟩ (.int .u8 ((fD n2).1.toNat : Int))).setCell ⟨g6, 1, none⟩ (.int .u8 ((fD n2).2.1.toNat : Int))).setCell ⟨g6, 2, none⟩ (.slice A3 (fD n2).2.2.length c3) = V at *
      refine hK.out _ _ L0 (fun _ => ?_)
      clear hK K
      try simp only [zA, zS, zZ, Act.put, zP, zQ, zR]
      refine Node.tk 12 ?_ rfl ?_ ?_
      rotate_left
      · intro w hSw; (try dsimp only at hSw); go_simp; try with_reducible rfl
      simp only [zA, zS, zZ, Act.put, zP, zQ, zR]
      refine wpAnyH_done (by kernel_rfl) ?_ _
      exact ⟨g5, g6, ⟨rfl, rfl, by simp⟩, N5', F, Bb⟩

/-- The link behind i - 1 ticks. -/
def kD (tk s1 i : Int) : Lst := (if i ≤ tk + 1 then s1 else -1, i - 1, 0)
theorem kD_next (tk s1 i : Int) (h1 : 1 ≤ i ∧ i ≤ tk + 1 ∧ tk ≤ 50) (hs : 0 ≤ s1 ∧ s1 < 256) : kD tk s1 (i + 1) = tickV tk (kD tk s1 i) := by
  have hr : rightL s1 (i - 1) 0 = true := by unfold rightL clamp; simp; omega
  have ho : onV (i - 1) 1 65535 = i := by unfold onV clamp; omega
  unfold kD tickV
  rw [if_pos (show i ≤ tk + 1 by omega)]
  simp only [hr, ho]
  by_cases h : tk < i
  · rw [if_neg (by omega), if_neg (by simp), if_pos h]; simp
  · rw [if_pos (by omega), if_neg (by simp), if_neg h]; simp

end Go.Proofs.YtlanlkpamnoekaaDoor
namespace Go.Proofs.YtlanlkpamnoekaaDoor
open Go Go.RowKit Rf Mem Bv Crc Str Lk
set_option maxRecDepth 100000
attribute [local go_sem ↓] run_max2 run_min2
set_option maxHeartbeats 4000000 in
theorem ld5 (a : Act) (tk s1 s2 : Int) (g7 g8 : Nat) (h1t : 1 ≤ tk ∧ tk ≤ 50) (hs1 : 0 ≤ s1 ∧ s1 < 256) (hS : Sl a 104 [(0, .int .i64 tk), (1, .int .u8 s1), (2, .int .u8 s2), (6, .bool false), (7, .pointer (some ⟨g7, 0, none⟩)), (8, .pointer (some ⟨g8, 0, none⟩)), (10, .int .i64 0)]) (w : World) (hT : Tops w) (hB : 0 < w.heap.size) (hY : LY w g7 y1 tk) (hL : LVar w g8 s1 0 0) (hg : g7 ≠ g8) (B0 : Nat) (hB0 : B0 ≤ g8) (hB1 : 0 < B0) : (rgD 5).wp Tryd.prog (nrm fun a' w' => Sl a' 104 [(0, .int .i64 tk), (1, .int .u8 s1), (2, .int .u8 s2), (6, .bool false), (7, .pointer (some ⟨g7, 0, none⟩)), (8, .pointer (some ⟨g8, 0, none⟩)), (10, .int .i64 0)] ∧ LY w' g7 y1 tk ∧ LVar w' g8 (-1) (tk + 1) 0 ∧ Below B0 w w') a w := by
  obtain ⟨j, rfl, hj⟩ := hS.lit104
  have h0 : j 0 = .int .i64 tk := hj (0, _) (by simp)
  have h1 : j 1 = .int .u8 s1 := hj (1, _) (by simp)
  have h2 : j 2 = .int .u8 s2 := hj (2, _) (by simp)
  have h6 : j 6 = .bool false := hj (6, _) (by simp)
  have h7 : j 7 = .pointer (some ⟨g7, 0, none⟩) := hj (7, _) (by simp)
  have h8 : j 8 = .pointer (some ⟨g8, 0, none⟩) := hj (8, _) (by simp)
  have h10 : j 10 = .int .i64 0 := hj (10, _) (by simp)
  clear hj hS
  unfold rgD bodyD
  simp only [Tryd.f6, Option.getD_some, nthSeq, lit104, List.cons_append, List.nil_append, h0, h1, h2, h6, h7, h8, h10]
  obtain ⟨q1, hq1⟩ : ∃ q1, wrap64 (tk + 1) = q1 := ⟨_, rfl⟩
  have hq2 : q1 = tk + 1 := by rw [← hq1]; unfold wrap64; omega
  have hq3 : 2 ≤ q1 ∧ q1 ≤ 51 := by omega
  have HQ := Lib.hid hq2
  have HT1 := Lib.hid h1t
  have HS1 := Lib.hid hs1
  clear h1t hs1 hB hq2
  go_wp2
  go_loopw [6, 11] (fun f i wr => ∃ (k : Int) (x : Lst), 1 ≤ k ∧ k ≤ q1 + 1 ∧ f = .bool false ∧ i = .int .i64 k ∧ Hid (x = kD tk s1 k) ∧ LY wr g7 y1 tk ∧ LVar wr g8 x.1 x.2.1 x.2.2 ∧ Below B0 w wr) (fun _ i _ => (q1 + 1 - intOf i).toNat)
  case atStart => exact ⟨1, (s1, 0, 0), by omega, by omega, rfl, rfl, Lib.hid (by unfold kD; rw [if_pos (by have := HT1.out; omega)]; rfl), hY, hL, Below.refl _ _⟩
  case round =>
    obtain ⟨k, x, hk1, hk2, rfl, rfl, hx, hYr, hLr, hBr⟩ := hrel
    by_cases hlt : k ≤ q1
    · have hTr := hT.belowB hBr hB1
      have hg8 := lt_of_at hLr.at_
      obtain ⟨x', hx'⟩ : ∃ x' : Lst, x' = tickV tk x := ⟨_, rfl⟩
      have HX' := Lib.hid hx'
      have hxk : x' = kD tk s1 (k + 1) := by rw [hx', hx.out]; exact (kD_next tk s1 k (by have := HT1.out; have := HQ.out; omega) HS1.out).symm
      have HXK := Lib.hid hxk
      obtain ⟨y0, y1', y2, y3, y4, y5, y6, y7, y8, y9, y10⟩ := hYr.cells
      have r0 := hLr.c0
      have r1 := hLr.c1
      have r2 := hLr.c2
      clear hx' hxk hT hY hL
      go_wp2_with fail
      clear y0 y1' y2 y3 y4 y5 y6 y7 y8 y9 y10 r0 r1 r2
      refine (Tick_c y1 tk x x' HX'.out wr hTr).mono ?_
      rintro e W ⟨rfl, b⟩
      have hYW := hYr.later b
      have hLW := hLr.later b
      have hBW := hBr.trans (b.mono (by have := hBr.size; omega))
      clear hYr hLr hBr b HX' hTr
      obtain ⟨xs, xq, xe⟩ := x'
      have r0 := hLW.c0
      have r1 := hLW.c1
      have r2 := hLW.c2
      have e0 := free_at hLW.at_ 0
      have e1 := free_at hLW.at_ 1
      have e2 := free_at hLW.at_ 2
      go_upto_region 11 with (fail)
      have V3 := hLW.set3 xs xq xe
      have Y3 : LY (((W.setCell ⟨g8, 0, none⟩ (.int .i64 xs)).setCell ⟨g8, 1, none⟩ (.int .i64 xq)).setCell ⟨g8, 2, none⟩ (.int .i64 xe)) g7 y1 tk := ⟨frame_far3 hYW.at_ (g' := g8) hg xs xq xe⟩
      have B3 := ((hBW.setCell (p := ⟨g8, 0, none⟩) hB0 (.int .i64 xs)).setCell (p := ⟨g8, 1, none⟩) hB0 (.int .i64 xq)).setCell (p := ⟨g8, 2, none⟩) hB0 (.int .i64 xe)
      clear r0 r1 r2 e0 e1 e2 hYW hLW hBW
      generalize ((W.setCell ⟨g8, 0, none⟩ (.int .i64 xs)).setCell ⟨g8, 1, none⟩ (.int .i64 xq)).setCell ⟨g8, 2, none⟩ (.int .i64 xe) = W3 at *
      by_cases hkq : k < q1
      · have hx3 : ((xs, xq, xe) : Lst) = (s1, k, 0) := by rw [HXK.out]; unfold kD; rw [if_pos (by have := HQ.out; omega)]; congr 2; omega
        simp only [Prod.mk.injEq] at hx3
        obtain ⟨rfl, rfl, rfl⟩ := hx3
        have d1 : decide (tk < xq) = false := decide_eq_false (by have := HQ.out; omega)
        have d2 : decide (xq ≤ tk) = true := decide_eq_true (by have := HQ.out; omega)
        have hws : IntKind.i64.wrap xs = xs := IntWalk.i64_in _ (by have := HS1.out; omega)
        have HD := Lib.hid d1.symm
        have x0 := V3.c0
        have x1 := V3.c1
        have x2 := V3.c2
        obtain ⟨y0, y1', y2, y3, y4, y5, y6, y7, y8, y9, y10⟩ := Y3.cells
        go_wp2_with fail
        clear y0 y1' y2 y3 y4 y5 y6 y7 y8 y9 y10 x0 x1 x2
        refine (Dead_c y1 tk xs xq 0 false HD.out W3).mono ?_
        rintro e W4 ⟨rfl, b4⟩
        have Y4 := Y3.later b4
        have V4 := V3.later b4
        have B4 := B3.trans (b4.mono (by have := B3.size; have := lt_of_at V3.at_; omega))
        clear Y3 V3 B3 b4
        have x0 := V4.c0
        have HXR := Lib.hid (show ((xs, xq, 0) : Lst) = kD tk xs (xq + 1) from HXK.out)
        go_wp2
        go_roundw
        case rel => exact ⟨xq + 1, (xs, xq, 0), by omega, by omega, rfl, by go_num, HXR, Y4, V4, B4⟩
        case measure => simp [intOf]; omega
      · have hx3 : ((xs, xq, xe) : Lst) = (-1, k, 0) := by rw [HXK.out]; unfold kD; rw [if_neg (by have := HQ.out; omega)]; congr 2; omega
        simp only [Prod.mk.injEq] at hx3
        obtain ⟨rfl, rfl, rfl⟩ := hx3
        have d1 : decide (tk < xq) = true := decide_eq_true (by have := HQ.out; omega)
        have d2 : decide (xq ≤ tk) = false := decide_eq_false (by have := HQ.out; omega)
        have HD := Lib.hid d1.symm
        have x0 := V3.c0
        have x1 := V3.c1
        have x2 := V3.c2
        obtain ⟨y0, y1', y2, y3, y4, y5, y6, y7, y8, y9, y10⟩ := Y3.cells
        go_wp2_with fail
        clear y0 y1' y2 y3 y4 y5 y6 y7 y8 y9 y10 x0 x1 x2
        refine (Dead_c y1 tk (-1) xq 0 true HD.out W3).mono ?_
        rintro e W4 ⟨rfl, b4⟩
        have Y4 := Y3.later b4
        have V4 := V3.later b4
        have B4 := B3.trans (b4.mono (by have := B3.size; have := lt_of_at V3.at_; omega))
        clear Y3 V3 B3 b4
        have x0 := V4.c0
        have HXR := Lib.hid (show ((-1, xq, 0) : Lst) = kD tk s1 (xq + 1) from HXK.out)
        go_wp2
        go_roundw
        case rel => exact ⟨xq + 1, (-1, xq, 0), by omega, by omega, rfl, by go_num, HXR, Y4, V4, B4⟩
        case measure => simp [intOf]; omega
    · obtain rfl : k = q1 + 1 := by omega
      have hx2 : x = (-1, tk + 1, 0) := by rw [hx.out]; unfold kD; rw [if_neg (by have := HQ.out; omega)]; congr 2; have := HQ.out; omega
      have hBr' := Lib.hid hBr
      subst hx2
      have hlt' : ¬ (q1 + 1 ≤ q1) := by omega
      clear hlt
      go_wp2
      exact ⟨⟨rfl, rfl, by simp⟩, hYr, hLr, hBr'.out⟩
end Go.Proofs.YtlanlkpamnoekaaDoor
