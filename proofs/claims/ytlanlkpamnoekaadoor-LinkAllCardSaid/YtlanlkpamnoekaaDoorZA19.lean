/- Link, in company. Nothing that was there is turned. -/
import Derived.Test.YtlanlkpamnoekaaDoorZA18
import Derived.Test.YtlanlkpamnoekaaDoorZD11
import Derived.Lib.LaidTab
import Derived.OpenShut
set_option linter.unusedSimpArgs false
set_option linter.unusedVariables false
namespace Go.Proofs.YtlanlkpamnoekaaDoor.Lk
open Go Go.Conc Go.RowKit Rf Mem Bv Crc Str
set_option maxRecDepth 100000

section
variable {T : Frame → List Frame → World → Prop} {b : Frame} {fs : List Frame} {k : List Item}
/-- The loop, alone. -/
theorem loopA_wins (Af : Option Addr) (cf n : Nat) (kd : Int) (g3 : Nat) (Ar : Option Addr) (cr m : Nat) (g7 : Nat) (g9 : Nat) (w1 : World) (us : List Value) (xs : List (List (BitVec 8))) (hn : us.length = n) (hn60 : n ≤ 60) (hT1 : Tops w1) (hs1 : SliceAt w1 1 (.slice Af n cf) n us) (hE1 : Els w1 us xs) (x : Lst) (hx : rightL x.1 x.2.1 x.2.2 = true) (rv : FrsAt w1 (.slice Ar m cr) (allV kd (x, []) xs).2) (hm : (allV kd (x, []) xs).2.length = m) (h9 : w1.heap.size ≤ g9)
    (hk : ∀ a w mm rf z, Sl a 99 [(1, .int .u8 kd), (2, .slice Af n cf), (3, .pointer (some ⟨g3, 0, none⟩)), (6, .bool false), (7, .pointer (some ⟨g7, 0, none⟩)), (8, .slice Ar m cr), (9, .pointer (some ⟨g9, 0, none⟩)), (10, .int .i64 (mm : Nat)), (11, .int .i64 (rf : Nat)), (12, .int .i64 (n : Nat))] → AllIs kd x xs n mm rf z → LVar w g9 z.1.1 z.1.2.1 z.1.2.2 → Below w1.heap.size w1 w → Wins Tryd.prog T (b.at a k) fs w) :
    ∀ (d i mm rf : Nat) (a : Act) (w : World) (z : Lst × List Frm), i + d = n → Sl a 99 [(1, .int .u8 kd), (2, .slice Af n cf), (3, .pointer (some ⟨g3, 0, none⟩)), (6, .bool false), (7, .pointer (some ⟨g7, 0, none⟩)), (8, .slice Ar m cr), (9, .pointer (some ⟨g9, 0, none⟩)), (10, .int .i64 (mm : Nat)), (11, .int .i64 (rf : Nat)), (12, .int .i64 (i : Nat))] → AllIs kd x xs i mm rf z → LVar w g9 z.1.1 z.1.2.1 z.1.2.2 → Below w1.heap.size w1 w → Wins Tryd.prog T (b.at a (.code loopA :: .inLoop loopA :: .inBlock 0 :: k)) fs w := by
  intro d
  induction d with
  | zero =>
    intro i mm rf a w z hi hS hz hL hB
    obtain rfl : i = n := by omega
    rw [loopA_eq]
    refine Wins.seq (Wins.seq (Wins.wp (la7 a Af cf i kd g3 Ar cr m g7 g9 mm rf i _ rfl hS w) fun a1 W1 ⟨t1, e1⟩ => ?_))
    subst e1
    have e35 : a1.tmps[35]? = some (.bool (decide ((i : Int) < (i : Int)))) := t1.get (by simp)
    refine Wins.cond false (by simp [Act.eval, e35]) (Lk.Wins.exit (by rfl) ?_)
    exact hk a1 W1 mm rf z (t1.sub (by simp)) hz hL hB
  | succ d ih =>
    intro i mm rf a w z hi hS hz hL hB
    have hlt : i < n := by omega
    rw [loopA_eq]
    refine Wins.seq (Wins.seq (Wins.wp (la7 a Af cf n kd g3 Ar cr m g7 g9 mm rf i _ rfl hS w) fun a1 W1 ⟨t1, e1⟩ => ?_))
    subst e1
    have e35 : a1.tmps[35]? = some (.bool (decide ((i : Int) < (n : Int)))) := t1.get (by simp)
    refine Wins.cond true (by simp [Act.eval, e35]; omega) (Wins.skip (Wins.seq (Wins.block ?_)))
    rw [← loopA_eq, cA_eq]
    -- a frame is heard
    have hxn : xs.length = n := by rw [← hE1.len]; exact hn
    obtain ⟨y, hy⟩ : ∃ y, xs[i]? = some y := ⟨_, List.getElem?_eq_getElem (by omega)⟩
    obtain ⟨Ay, cy, hu, sy, hly⟩ := hE1.get i y hy
    obtain ⟨bA, oA, cf', e1, _⟩ := hs1.pos (by omega)
    obtain ⟨rfl, _, rfl⟩ := Value.slice.inj e1
    obtain ⟨⟨⟨s', q', e'⟩, er, f⟩, hr⟩ : ∃ r : Lst × Int × Frm, r = hearV kd y z.1 := ⟨_, rfl⟩
    refine Wins.seq (Wins.wp (la9 a1 bA oA cf n kd g3 Ar cr m g7 g9 mm rf i z.1.1 z.1.2.1 z.1.2.2 er s' q' e' f y us Ay cy hr hlt hu hly (t1.sub (by simp)) W1 (hT1.below hB) hL (hs1.later hB) (sy.later hB)) fun a2 W2 ⟨ga, gb, t2, la, fb, na, nb, b2⟩ => ?_)
    have B2 := hB.trans (b2.mono hB.size)
    have L2 := hL.later b2
    have n9 : g9 < W1.heap.size := lt_of_at hL.at_
    refine Wins.seq (Wins.wp (la10 a2 (some ⟨bA, oA, none⟩) cf n kd g3 Ar cr m g7 g9 ga gb mm rf i er z.1.1 z.1.2.1 z.1.2.2 s' q' e' f w1.heap.size h9 w1 (by omega) t2 W2 B2 L2 la fb) fun a3 W3 ⟨t3, l3, f3, b3⟩ => ?_)
    refine Wins.seq (Wins.seq (Wins.wp (la11 a3 (some ⟨bA, oA, none⟩) cf n kd g3 Ar cr m g7 g9 ga gb mm rf i er _ rfl t3 W3) fun a4 W4 ⟨t4, e4⟩ => ?_))
    subst e4
    have e51 : a4.tmps[51]? = some (.bool (er != 0)) := t4.get (by simp)
    have hrr : (hearV kd y z.1).2.1 = er := by rw [← hr]
    have hr1 : (hearV kd y z.1).1 = (s', q', e') := by rw [← hr]
    have hr2 : (hearV kd y z.1).2.2 = f := by rw [← hr]
    have hmx : mm + rf = i := hz.sum
    by_cases h0 : er = 0
    · have ht : (er != 0) = false := by rw [h0]; rfl
      rw [ht] at e51
      refine Wins.cond false (by simp [Act.eval, e51]) (Wins.skip ?_)
      obtain ⟨hz', hat⟩ := hz.yes hy (by rw [hrr]; exact h0)
      rw [hr1, hr2] at hz'
      rw [hr2] at hat
      obtain ⟨cs, hsl, hfc⟩ := rv
      rw [hm] at hsl
      have hmm : mm < m := by rw [← hm]; exact (List.getElem?_eq_some_iff.1 hat).1
      obtain ⟨bR, oR, cr', e2, _⟩ := hsl.pos (by omega)
      obtain ⟨rfl, _, rfl⟩ := Value.slice.inj e2
      refine Wins.seq (Wins.seq (Wins.wp (la13 a4 (some ⟨bA, oA, none⟩) cf n kd g3 bR oR cr m g7 g9 ga gb mm rf i er f _ cs hmm hat (t4.sub (by simp)) W4 (hsl.later b3) (hfc.later b3) f3) fun a5 W5 ⟨t5, b5⟩ => ?_))
      have e66 : a5.tmps[66]? = some (.bool false) := t5.get (by simp)
      refine Wins.cond false (by simp [Act.eval, e66]) (Wins.skip ?_)
      have B5 := b3.trans (b5.mono b3.size)
      refine Wins.wp (la15 a5 (some ⟨bA, oA, none⟩) cf n kd g3 (some ⟨bR, oR, none⟩) cr m g7 g9 mm rf i (by omega) (t5.sub (by simp)) W5) fun a6 W6 ⟨t6, e6⟩ => ?_
      subst e6
      refine Wins.inBlock (Wins.wp (la8 a6 (some ⟨bA, oA, none⟩) cf n kd g3 (some ⟨bR, oR, none⟩) cr m g7 g9 (mm + 1) rf i (by omega) t6 W6) fun a7 W7 ⟨t7, e7⟩ => ?_)
      subst e7
      exact Wins.inLoop (ih (i + 1) (mm + 1) rf a7 W7 _ (by omega) t7 hz' (l3.later b5) B5)
    · have ht : (er != 0) = true := by simp [h0]
      rw [ht] at e51
      refine Wins.cond true (by simp [Act.eval, e51]) ?_
      have hz' := hz.no hx hy (by rw [hrr]; exact h0)
      rw [hr1] at hz'
      refine Wins.seq (Wins.wp (la12 a4 (some ⟨bA, oA, none⟩) cf n kd g3 Ar cr m g7 g9 mm rf i (by omega) (t4.sub (by simp)) W4) fun a5 W5 ⟨t5, e5⟩ => ?_)
      subst e5
      refine Lk.Wins.exit (by rfl) (Wins.wp (la8 a5 (some ⟨bA, oA, none⟩) cf n kd g3 Ar cr m g7 g9 mm (rf + 1) i (by omega) t5 W5) fun a6 W6 ⟨t6, e6⟩ => ?_)
      subst e6
      exact Wins.inLoop (ih (i + 1) mm (rf + 1) a6 W6 _ (by omega) t6 hz' l3 b3)
end

noncomputable def restA : Code := .seq (rgA 3) (.seq (rgA 4) (.seq (rgA 5) (.seq (rgA 6) .ret)))
/-- What is held where LinkAll calls All. -/
def JA (s q e : Int) (kd : Int) (Af : Option Addr) (cf n : Nat) (us : List Value) (xs : List (List (BitVec 8))) (fr : Frame) (W : World) : Prop := ∃ (a : Act) (g3 : Nat), fr = (base 5).at a (.inRegion opsA3 [3, 4, 5, 6, 7, 8, 9] :: [.code restA]) ∧ Sl a 99 [(1, .int .u8 kd), (2, .slice Af n cf), (3, .pointer (some ⟨g3, 0, none⟩)), (6, .bool false)] ∧ LVar W g3 s q e ∧ Tops W ∧ SliceAt W 1 (.slice Af n cf) n us ∧ Els W us xs ∧ n ≤ 60 ∧ rightL s q e = true
theorem keeps_A (s q e : Int) (kd : Int) (Af : Option Addr) (cf n : Nat) (us : List Value) (xs : List (List (BitVec 8))) : Keeps (JA s q e kd Af cf n us xs) :=
  ⟨fun fr W W' ⟨a, g3, h1, h2, h3, h4, h5, h6, h7, h8⟩ su => ⟨a, g3, h1, h2, su.lv h3, su.tops h4, su.sl h5, su.els h6, h7, h8⟩,
   fun fr W W' ⟨a, g3, h1, h2, h3, h4, h5, h6, h7, h8⟩ b => ⟨a, g3, h1, h2, h3.later b, h4.below b, h5.later b, h6.later b, h7, h8⟩⟩

theorem enterA (s q e : Int) (kd : Int) (Af : Option Addr) (cf n : Nat) : Frame.enter Tryd.prog 5 #[lk s q e, .int .u8 kd, .slice Af n cf] .normal = (base 5).at ⟨#[lk s q e, .int .u8 kd, .slice Af n cf] ++ Array.replicate 96 undef, []⟩ [.code bodyA] := by
  rw [enter_at (c := bodyA) _ Tryd.func5 rfl, Tryd.ntmps5]
  rfl
/-- LinkAll comes to wakes, or to All, alone. -/
theorem lall_wins (s q e : Int) (kd : Int) (Af : Option Addr) (cf n : Nat) (us : List Value) (xs : List (List (BitVec 8))) (hn : us.length = n) (G : World) (hT : Tops G) (hs : SliceAt G 1 (.slice Af n cf) n us) (hE : ElsW G us xs) :
    Wins Tryd.prog (fun f fs W' => AtWakes 5 6 G f fs W' ∨ AtAll (s, q, e) kd (.slice Af n cf) (JA s q e kd Af cf n us xs) G f fs W') (Frame.enter Tryd.prog 5 #[lk s q e, .int .u8 kd, .slice Af n cf] .normal) [] G := by
  rw [enterA, bodyA_eq]
  refine Wins.seq (Wins.wp (la0 _ Af cf n kd s q e ⟨rfl, by simp, by simp⟩ G) fun a0 W0 ⟨g3, t0, l0, b0⟩ => ?_)
  have hT0 := hT.below b0
  refine Wins.seq ?_
  rw [rgA1_eq]
  refine Wins.seq (Wins.wp (la1 a0 Af cf n kd g3 s q e us xs hn t0 W0 (hs.later b0) (hE.later b0) l0) fun a1 W1 ⟨t, t1, ht, b1⟩ => ?_)
  have B1 := below_step b0 b1
  have hT1 := hT.below B1
  have e22 : a1.tmps[22]? = some (.bool t) := t1.get (by simp)
  refine Wins.cond t (by simp [Act.eval, e22]) ?_
  cases t with
  | true =>
    refine Wins.seq (Wins.region ?_)
    rw [sizeA2]
    obtain ⟨o, ho, hg, hop⟩ : ∃ o, opsA2[0]? = some o ∧ o.guard = none ∧ o.op = .call { callee := .value (.func 10), args := #[], argTypes := #[] } := ⟨_, rfl, rfl, rfl⟩
    refine wins_wakes ho (wanted_none hg) hop (.inl (AtWakes.mk ?_ hT1 B1))
    obtain ⟨o2, ho2, hop2, hd2, hg2⟩ : ∃ o, opsA2[1]? = some o ∧ o.op = .assign (.tmp 23) ∧ o.dst = some 6 ∧ o.guard = none := ⟨_, rfl, rfl, rfl, rfl⟩
    exact cont_two rfl ho2 hop2 hd2 hg2 t1.defers (by rw [t1.size]; omega) (by rw [t1.size]; omega)
  | false =>
    obtain ⟨hn60, hle, hright⟩ := ht rfl
    refine Wins.skip (Wins.seq ?_)
    rw [rgA2_eq]
    refine Wins.region (Wins.ops [0, 1, 2] [3, 4, 5, 6, 7, 8, 9] sizeA3 (la3a a1 Af cf n kd g3 s q e (t1.sub (by simp)) W1 (l0.later b1)) fun a2 W2 ⟨t2, e2⟩ => ?_)
    subst e2
    obtain ⟨o, ho, hg, hop⟩ : ∃ o, opsA3[3]? = some o ∧ o.guard = none ∧ o.op = .call { callee := .value (.func 14), args := #[.tmp 25, .tmp 26, .tmp 27], argTypes := #[31, 5, 32] } := ⟨_, rfl, rfl, rfl⟩
    have e25 : a2.tmps[25]? = some (lk s q e) := t2.get (by simp)
    have e26 : a2.tmps[26]? = some (.int .u8 kd) := t2.get (by simp)
    have e27 : a2.tmps[27]? = some (.slice Af n cf) := t2.get (by simp)
    have hcall : ∀ args w, (callFunc 14 args).run Tryd.prog w = .ok (.enter 14 args) w := enters Tryd.func14 (by kernel_rfl) rfl
    refine Wins.call ho (by rw [Region.wanted, hg]) (g := 14) (args := #[lkv (s, q, e), .int .u8 kd, .slice Af n cf]) (w' := W2) ?_ ?_
    · unfold execOp
      simp [hop, resolve, invoke, Act.eval, Deferred.ofValue, e25, e26, e27, hcall]
    · exact Wins.stop (.inr ⟨_, rfl, rfl, ⟨a2, g3, rfl, t2.sub (by simp), l0.later b1, hT1, hs.later B1, (hE.els hle).later B1, hn60, hright⟩, .of B1⟩)

/-- From All's return to wakes, alone. -/
theorem all_rest (s q e : Int) (kd : Int) (Af : Option Addr) (cf n : Nat) (us : List Value) (xs : List (List (BitVec 8))) (hn : us.length = n) (fr : Frame) (W : World) (rv : Value) (hj : JA s q e kd Af cf n us xs fr W) (hF : FrsAt W rv (allV kd ((s, q, e), []) xs).2) :
    Wins Tryd.prog (AtWakes 5 6 W) (fr.finish (.tuple #[lkv (allV kd ((s, q, e), []) xs).1, rv])) [] W := by
  obtain ⟨a, g3, rfl, hS, l3, hT, hs, hE, hn60, hright⟩ := hj
  obtain ⟨⟨xs', xq, xe⟩, hx⟩ : ∃ z, z = (allV kd ((s, q, e), []) xs).1 := ⟨_, rfl⟩
  obtain ⟨m, hm⟩ : ∃ m, (allV kd ((s, q, e), []) xs).2.length = m := ⟨_, rfl⟩
  obtain ⟨Ar, cr, rfl⟩ : ∃ Ar cr, rv = .slice Ar m cr := by
    obtain ⟨cs, hsl, _⟩ := hF
    obtain ⟨Ar, cr, h, _⟩ := hsl.form
    rw [hm] at h
    exact ⟨Ar, cr, h⟩
  rw [← hx]
  have hd : (opsA3[3]?.bind (·.dst)) = some 28 := rfl
  rw [Frame.finish_at, hd]
  have hS2 := hS.put 28 (.tuple #[lk xs' xq xe, .slice Ar m cr]) (by omega) (by simp)
  refine Wins.ops [4, 5, 6, 7, 8, 9] [] rfl (la3b _ Af cf n kd g3 Ar cr m xs' xq xe (hS2.sub (by simp)) W) fun a1 W1 ⟨g7, t1, l7, b1⟩ => ?_
  refine Wins.regionEnd ?_
  unfold restA
  refine Wins.seq (Wins.wp (la4 a1 Af cf n kd g3 Ar cr m g7 s q e t1 W1 (l3.later b1)) fun a2 W2 ⟨g9, t2, l9, n9, b2⟩ => ?_)
  refine Wins.seq (Wins.wp (la5 a2 Af cf n kd g3 Ar cr m g7 g9 t2 W2) fun a3 W3 ⟨t3, e3⟩ => ?_)
  subst e3
  refine Wins.seq ?_
  rw [rgA5_eq]
  refine Wins.seq (Wins.wp (la6 a3 Af cf n kd g3 Ar cr m g7 g9 t3 W3) fun a4 W4 ⟨t4, e4⟩ => ?_)
  subst e4
  refine Wins.block (Wins.loop ?_)
  refine loopA_wins Af cf n kd g3 Ar cr m g7 g9 W1 us xs hn hn60 (hT.below b1) (hs.later b1) (hE.later b1) (s, q, e) hright (FrsAt.later hF b1) hm n9 ?_ n 0 0 0 a4 W4 _ (by omega) (t4.sub (by simp)) (AllIs.zero hright) l9 b2
  intro a5 W5 mm rf z t5 hz lz B5
  have hzn : z = allV kd ((s, q, e), []) xs := by
    rw [hz.is, List.take_of_length_le (by rw [← hE.len]; omega)]
  have hz1 : z.1 = (xs', xq, xe) := by rw [hzn, hx]
  have hmm : mm = m := by rw [← hz.len, hzn, hm]
  subst hmm
  have he := hz.err
  rw [hz1] at he lz
  refine Wins.seq ?_
  rw [rgA6_eq]
  have BW := below_step b1 B5
  have hr := right_e (x := (s, q, e)) hright
  refine Wins.region (Wins.ops _ [28, 29, 30] sizeA16 (la16a a5 Af cf n kd g3 Ar cr mm g7 g9 rf xs' xq xe e hz.sum hn60 (by simp only at hr; omega) he (t5.sub (by simp)) W5 s q (l3.later BW) (l7.later B5) lz) fun a6 W6 ⟨t6, e6⟩ => ?_)
  subst e6
  obtain ⟨o, ho, hg, hop⟩ : ∃ o, opsA16[28]? = some o ∧ o.guard = some (27, true) ∧ o.op = .call { callee := .value (.func 10), args := #[], argTypes := #[] } := ⟨_, rfl, rfl, rfl⟩
  refine wins_wakes ho (wanted_some (d := 96) hg rfl (t6.get (by simp))) hop (AtWakes.mk ?_ (hT.below BW) BW)
  exact cont_of (d := 97) rfl fun w => la16b _ ((t6.put 97 (.bool true) (by omega) (by simp)).sub (by simp)) w

/-- ████ LinkAll in company. ████ -/
theorem all_runs (s q e : Int) (kd : Int) (Af : Option Addr) (cf n : Nat) (us : List Value) (xs : List (List (BitVec 8))) (hn : us.length = n) (A : World) (hT : Tops A) (hs : SliceAt A 1 (.slice Af n cf) n us) (hE : ElsW A us xs) (m : Machine) (t : Trace) (h : St (QL Tryd.prog) (Frame.enter Tryd.prog 5 #[lk s q e, .int .u8 kd, .slice Af n cf] .normal) [] A m t) :
    Run Tryd.prog m t (To (QL Tryd.prog) fun f' cs' A' => cs' = [] ∧ DoneF 5 6 f' ∧ Below A.heap.size A A') :=
  all_then (keeps_A s q e kd Af cf n us xs) (fun fr W ⟨_, _, _, _, _, h4, h5, h6, h7, _⟩ => ⟨h4, by rw [hn]; exact h5, h6, by omega⟩) (NF.enter (fit (fun _ => False)).nice (by decide) _)
    (fun W su => lall_wins s q e kd Af cf n us xs hn W (su.tops hT) (su.sl hs) (hE.see su)) (fun fr W rv hj hF => all_rest s q e kd Af cf n us xs hn fr W rv hj hF) h
end Go.Proofs.YtlanlkpamnoekaaDoor.Lk
namespace Go.Proofs.YtlanlkpamnoekaaDoor
open Go.RowKit Rf Mem Go.ChangeAt
theorem tops_of_laid {W : World} (h : laidMetH Tryd.prog [("lockbar/tick.tops", Rows.laid_lockbar_tick_tops)] W) : Tops W := by
  have hg : Tryd.prog.globalNamed "lockbar/tick.tops" = some 0 := by kernel_rfl
  have t : Lib.TabIs Tryd.prog W "lockbar/tick.tops" .i64 [1073741824, 65535] := Lib.tabIs_of_head (rest := []) hg (t := 116) (by kernel_rfl) Tryd.underlying116 Tryd.underlying3 (by kernel_rfl) (by kernel_rfl) h
  have c0 := t.cell hg 0 (by decide)
  refine ⟨c0, t.cell hg 1 (by decide), ?_⟩
  unfold World.cell? at c0
  cases ho : W.heap[0]? with
  | none => simp [ho] at c0
  | some o => exact (Array.getElem?_eq_some_iff.1 ho).1
theorem byte_of {n : Int} (h : (Lit.int .u8 n).wf = true) : ∃ b : BitVec 8, n = (b.toNat : Int) := by
  have := bounds_u8 h
  exact ⟨BitVec.ofNat 8 n.toNat, by rw [BitVec.toNat_ofNat, Nat.mod_eq_of_lt (by omega)]; omega⟩
end Go.Proofs.YtlanlkpamnoekaaDoor
