/- Routes that may be: the contract of the document's Right. Nothing that was there is turned. -/
import Derived.Test.YtkmioplegjeopaaAspS
import Derived.Test.YtkmioplegjeopaaNode
namespace Go.Proofs.Ytkmioplegjeopaa
open Go.RowKit Rf Mem Bv AM
attribute [local go_sem ↓] run_max2 run_min2
theorem wp_app {P : Program} {w : World} {o : Oper} {a : Act} {K : Act → World → Prop} {Q : Exit → Act → World → Prop} (s x : Operand) (t : TypeId)
    (ho : o.op = .call { callee := .builtin .append, args := #[s, x], argTypes := #[t, t] })
    (base : Nat) (e : TypeId) (i : TypeInfo) (z : Value) (size byt : Nat) (ht : P.underlying t = some (.slice e)) (hi : P.info? e = some i) (hz : i.zero = some z)
    (hsize : i.size = size) (hby : i.bytes = byt) (hzs : z.cells.size = size) (hsz : 0 < size)
    (v : Value) (n : Nat) (xs : List Value) (hs : a.eval s = v) (hown : w.ownsRow base e size v n xs) (src : Value) (m : Nat) (news : List Value) (hx : a.eval x = src) (hsrc : SliceAt w size src m news) (h1 : ∀ u ∈ news, u.oneCell' = true)
    (h63 : n + m ≤ maxLen) (hbytes : (n + m) * byt ≤ 140737488355328) (hbase : base ≤ w.heap.size)
    (h : ∀ v' w', w'.ownsRow base e size v' (n + m) (xs ++ news) → w.grownBy w' v.ownBlock → (v'.ownBlock = v.ownBlock ∨ v'.ownBlock = some w.heap.size) → K (a.put o.dst v') w') :
    o.wp P a w K Q := by
  obtain ⟨v', w', hr, h2, h3, h4⟩ := run_append_src (P := P) w base t o.type e i z size byt ht hi hz hsize hby hzs hsz v n xs hown src m news hsrc h1 h63 hbytes hbase
  unfold Oper.wp execOp
  simp only [ho, resolve, invoke, builtin, Sem.run_bind, Sem.run_pure, Result.andThen_ok, List.map_toArray, List.map_cons, List.map_nil, hs, hx, hr]
  exact h v' w' h2 h3 h4
theorem run_bs0 (w : World) : (Instr.buildSlice 46 0 #[]).run Try.prog w = .ok (.slice (some ⟨w.heap.size, 0, none⟩) 0 0) (w.alloc (.cells #[] 55)) := by go_simp
/-- what of a route that may be is wanted -/
def needOk (n : Nat) (x : T3) : Prop := 0 ≤ x.1 ∧ x.1 < 24 ∧ 0 ≤ x.2.1 ∧ x.2.1 ≤ 1 ∧ 0 ≤ x.2.2 ∧ x.2.2 ≤ n
def rightH (q : HeldM) : Prop := 1 ≤ q.steps.length ∧ q.steps.length ≤ 12 ∧ q.over.length ≤ 2 ∧ 0 ≤ q.gone ∧ q.gone ≤ q.steps.length ∧ ∀ x ∈ q.needs, needOk q.steps.length x
def Rt17 (e : Ending) (q : HeldM) : Prop := ∃ r : Bool, e = .returned (.bool r) ∧ (r = true → rightH q)
theorem rt17_no (q : HeldM) : Rt17 (.returned (.bool false)) q := ⟨false, rfl, fun h => by cases h⟩
/-- the first row of tests -/
def Rt17a (v : Value) (n o : Nat) (gone : Int) : Prop := ∃ r : Bool, v = .bool r ∧ (r = false → 1 ≤ n ∧ n ≤ 12 ∧ o ≤ 2 ∧ 0 ≤ gone ∧ gone ≤ n)
theorem rt17a_yes (n o : Nat) (gone : Int) : Rt17a (.bool true) n o gone := ⟨true, rfl, fun h => by cases h⟩
/-- a route's variable, a row of all its steps -/
structure RV (w W : World) (cs : List Value) (q : HeldM) (va : Value) (all : List T3) : Prop where
  bel : Below w.heap.size w W
  g : W.heap[w.heap.size]? = some (.cells cs.toArray 52 (0, 0))
  h : HeldAt W cs q
  t : TAt W va all
theorem RV.later {w W W' : World} {cs : List Value} {q : HeldM} {va : Value} {all : List T3} (h : RV w W cs q va all) (b : Below W.heap.size W W') : RV w W' cs q va all := ⟨below_step h.bel b, var_later h.g b, h.h.later b, h.t.later b⟩
set_option maxHeartbeats 4000000 in
set_option maxRecDepth 100000 in
theorem Right17_c (cs : List Value) (q : HeldM) (w : World) (h : HeldAt w cs q) (hlen : q.needs.length ≤ 5864062014700) :
    Calls Try.prog 16 #[.agg cs.toArray] w fun e w' => Below w.heap.size w w' ∧ Rt17 e q := by
  obtain ⟨i0, hi, hz0, hz1, hz2⟩ := info_parts info_step
  have b0 := below_new w (.cells cs.toArray 52)
  have G := new_at (w := w) rfl (.cells cs.toArray 52)
  obtain ⟨v3, e3, t3⟩ := h.st
  obtain ⟨v4, e4, t4⟩ := h.ov
  obtain ⟨v5, e5, t5⟩ := h.nd
  obtain ⟨A3, c3, rfl⟩ := t3.form
  obtain ⟨A4, c4, rfl⟩ := t4.form
  obtain ⟨A5, c5, rfl⟩ := t5.form
  obtain ⟨n, hn⟩ : ∃ n, q.steps.length = n := ⟨_, rfl⟩
  obtain ⟨o, ho⟩ : ∃ n, q.over.length = n := ⟨_, rfl⟩
  obtain ⟨m, hm⟩ : ∃ n, q.needs.length = n := ⟨_, rfl⟩
  have HN := Lib.hid hn
  have HO := Lib.hid ho
  have HM := Lib.hid hm
  rw [hn] at e3
  rw [ho] at e4
  rw [hm] at e5 hlen
  have HE3 := Lib.hid e3
  have HE4 := Lib.hid e4
  have HE5 := Lib.hid e5
  have HT3 : Hid (SliceAt w 3 (.slice A3 n c3) n (t3s q.steps)) := Lib.hid (by rw [← hn]; exact t3)
  have HT4 : Hid (SliceAt w 3 (.slice A4 o c4) o (t3s q.over)) := Lib.hid (by rw [← ho]; exact t4)
  have HT5 : Hid (TAt w (.slice A5 m c5) q.needs) := Lib.hid (by rw [← hm]; exact t5)
  obtain ⟨gn, hgn⟩ : ∃ g, q.gone = g := ⟨_, rfl⟩
  have HG := Lib.hid hgn
  have x0 := cell_list G h.id
  have x3 := cell_list G e3
  have x4 := cell_list G e4
  have x5 := cell_list G e5
  have x6 := cell_list G h.stage
  have x7 := cell_list G (hgn ▸ h.gone)
  have x21 := cell_list G h.timer
  have H0 := Lib.hid h
  clear h t3 t4 t5 e3 e4 e5 hn ho hm hgn
  go_enter Try.func16, Try.ntmps16
  go_upto_region 2 with (fail)
  generalize w.alloc (.cells cs.toArray 52) = W0 at *
  go_cut [73] from 14 to 73 (fun v wx => Below W0.heap.size W0 wx ∧ Rt17a v n o gn)
  case first =>
    have bo := Below.refl W0.heap.size W0
    obtain ⟨d1, hd1⟩ : ∃ d, decide (q.id < 1) = d := ⟨_, rfl⟩
    cases d1
    rotate_left
    · go_wp2
      go_meet
      exact ⟨bo, rt17a_yes _ _ _⟩
    obtain ⟨d2, hd2⟩ : ∃ d, decide (1073741824 < q.id) = d := ⟨_, rfl⟩
    cases d2
    rotate_left
    · go_wp2
      go_meet
      exact ⟨bo, rt17a_yes _ _ _⟩
    obtain ⟨d3, hd3⟩ : ∃ d, decide ((n : Int) < 1) = d := ⟨_, rfl⟩
    cases d3
    rotate_left
    · go_wp2
      go_meet
      exact ⟨bo, rt17a_yes _ _ _⟩
    obtain ⟨d4, hd4⟩ : ∃ d, decide (12 < (n : Int)) = d := ⟨_, rfl⟩
    cases d4
    rotate_left
    · go_wp2
      go_meet
      exact ⟨bo, rt17a_yes _ _ _⟩
    obtain ⟨d5, hd5⟩ : ∃ d, decide (2 < (o : Int)) = d := ⟨_, rfl⟩
    cases d5
    rotate_left
    · go_wp2
      go_meet
      exact ⟨bo, rt17a_yes _ _ _⟩
    obtain ⟨d6, hd6⟩ : ∃ d, decide (q.stage < 1) = d := ⟨_, rfl⟩
    cases d6
    rotate_left
    · go_wp2
      go_meet
      exact ⟨bo, rt17a_yes _ _ _⟩
    obtain ⟨d7, hd7⟩ : ∃ d, decide (5 ≤ q.stage) = d := ⟨_, rfl⟩
    cases d7
    rotate_left
    · go_wp2
      go_meet
      exact ⟨bo, rt17a_yes _ _ _⟩
    obtain ⟨d8, hd8⟩ : ∃ d, decide (gn < 0) = d := ⟨_, rfl⟩
    cases d8
    rotate_left
    · go_wp2
      go_meet
      exact ⟨bo, rt17a_yes _ _ _⟩
    obtain ⟨d9, hd9⟩ : ∃ d, decide ((n : Int) < gn) = d := ⟨_, rfl⟩
    cases d9
    rotate_left
    · go_wp2
      go_meet
      exact ⟨bo, rt17a_yes _ _ _⟩
    obtain ⟨d10, hd10⟩ : ∃ d, decide (q.timer < 0) = d := ⟨_, rfl⟩
    cases d10
    rotate_left
    · go_wp2
      go_meet
      exact ⟨bo, rt17a_yes _ _ _⟩
    obtain ⟨d11, hd11⟩ : ∃ d, decide (1073741824 < q.timer) = d := ⟨_, rfl⟩
    cases d11
    rotate_left
    · go_wp2
      go_meet
      exact ⟨bo, rt17a_yes _ _ _⟩
    have HF : Hid (1 ≤ n ∧ n ≤ 12 ∧ o ≤ 2 ∧ 0 ≤ gn ∧ gn ≤ n) := Lib.hid (by
      have := of_decide_eq_false hd3
      have := of_decide_eq_false hd4
      have := of_decide_eq_false hd5
      have := of_decide_eq_false hd8
      have := of_decide_eq_false hd9
      omega)
    obtain ⟨r, hr⟩ : ∃ r, clashB q.needs q.needs = r := ⟨_, rfl⟩
    have HR := Lib.hid hr.symm
    clear hr
    go_wp2_with fail
    refine (refclash_c _ _ q.needs q.needs r _ HR.out (HT5.out.later b0) (HT5.out.later b0) (by rw [HM.out]; exact hlen) (by rw [HM.out]; exact hlen)).mono ?_
    rintro e W1 ⟨rfl, b1⟩
    go_wp2
    go_meet
    exact ⟨b1, r, rfl, fun _ => HF.out⟩
  case rest =>
    obtain ⟨b1, r, rfl, hf⟩ := hcut
    have HF := Lib.hid hf
    clear hf x0 x3 x4 x5 x6 x7 x21
    cases r
    rotate_left
    · go_wp2
      go_ret
      exact ⟨below_step b0 b1, rt17_no q⟩
    obtain ⟨n1, n2, n3, n4, n5⟩ := HF.out rfl
    replace G := var_later G b1
    have y3 := cell_list G HE3.out
    have y4 := cell_list G HE4.out
    have B := below_step b0 b1
    have HNN := Lib.hid (And.intro (And.intro n1 n2) (And.intro n3 (And.intro n4 n5)))
    go_upto_region 4 with (fail)
    clear HF b1
    go_cut [4] from 74 to 81 (fun v wx => RV w wx cs q v (q.steps ++ q.over))
    case first =>
      refine wp_region_held_drew (S := (fun w' => w'.cell? ⟨w.heap.size, 3, none⟩ = some (.slice A3 n c3) ∧ w'.cell? ⟨w.heap.size, 4, none⟩ = some (.slice A4 o c4))) (by kernel_rfl) ?_ (fun hHeld => ?_)
      · exact ⟨y3, y4⟩
      have bd : Below wc.heap.size wc wc.drew := (Below.refl _ wc).drew
      replace G := var_later G bd
      replace B := below_step B bd
      clear y3 y4 bd
      generalize wc.drew = V at *
      refine wpAnyH_take (i := 1) (v := ?_) rfl (by kernel_rfl) (by kernel_rfl) (by kernel_rfl) (fun _ _ _ h => h) (Or.inl ⟨by kernel_rfl, ?_⟩) (by assumption) ?_
      rotate_left
      · intro w hSw
        try dsimp only at hSw
        go_simp
        try with_reducible rfl
      simp only [List.getElem_toArray, List.getElem_cons_succ, List.getElem_cons_zero, Act.put, List.setIfInBounds_toArray, List.set_cons_zero, List.set_cons_succ]
      refine wpAnyH_take (i := 2) (v := ?_) rfl (by kernel_rfl) (by kernel_rfl) (by kernel_rfl) (fun _ _ _ h => h) (Or.inl ⟨by kernel_rfl, ?_⟩) (by assumption) ?_
      rotate_left
      · intro w hSw
        try dsimp only at hSw
        go_simp
        try with_reducible rfl
      simp only [List.getElem_toArray, List.getElem_cons_succ, List.getElem_cons_zero, Act.put, List.setIfInBounds_toArray, List.set_cons_zero, List.set_cons_succ]
      refine wpAnyH_take (i := 3) (v := ?_) rfl (by kernel_rfl) (by kernel_rfl) (by kernel_rfl) (fun _ _ _ h => h) (Or.inl ⟨by kernel_rfl, ?_⟩) (by assumption) ?_
      rotate_left
      · intro w hSw
        try dsimp only at hSw
        go_simp
        try with_reducible rfl
      simp only [List.getElem_toArray, List.getElem_cons_succ, List.getElem_cons_zero, Act.put, List.setIfInBounds_toArray, List.set_cons_zero, List.set_cons_succ]
      refine wpAnyH_take (i := 5) (v := ?_) rfl (by kernel_rfl) (by kernel_rfl) (by kernel_rfl) (fun _ _ _ h => h) (Or.inl ⟨by kernel_rfl, ?_⟩) (by assumption) ?_
      rotate_left
      · intro w hSw
        try dsimp only at hSw
        go_simp
        try with_reducible rfl
      simp only [List.getElem_toArray, List.getElem_cons_succ, List.getElem_cons_zero, Act.put, List.setIfInBounds_toArray, List.set_cons_zero, List.set_cons_succ]
      refine wpAnyH_take (i := 6) (v := ?_) rfl (by kernel_rfl) (by kernel_rfl) (by kernel_rfl) (fun _ _ _ h => h) (Or.inl ⟨by kernel_rfl, ?_⟩) (by assumption) ?_
      rotate_left
      · intro w hSw
        try dsimp only at hSw
        go_simp
        try with_reducible rfl
      simp only [List.getElem_toArray, List.getElem_cons_succ, List.getElem_cons_zero, Act.put, List.setIfInBounds_toArray, List.set_cons_zero, List.set_cons_succ]
      clear hHeld
      have hown := own_empty V 55 3
      have bA := below_new V (.cells #[] 55)
      have hgl := lt_at G
      replace G := var_later G bA
      replace B := below_step B bA
      clear bA
      refine wpAnyH_ready (rs := [0]) (by kernel_rfl) (by simp) ?_
      refine AllReadyH.cons rfl (fun K hK => ?_) AllReadyH.nil
      refine Node.wp_bs 46 0 [] [] _ (by rfl) (by rfl) (run_bs0 V) ?_
      generalize V.alloc (.cells #[] 55) = V1 at *
      generalize V.heap.size = ga at *
      refine hK.out _ _ ⟨cell_list G HE3.out, cell_list G HE4.out⟩ (fun hHeld => ?_)
      clear hK K hHeld
      simp only [List.getElem_toArray, List.getElem_cons_succ, List.getElem_cons_zero, Act.put, List.setIfInBounds_toArray, List.set_cons_zero, List.set_cons_succ]
      have hgV := (own_base hown rfl).2
      refine wpAnyH_ready (rs := [4]) (by kernel_rfl) (by simp) ?_
      refine AllReadyH.cons rfl (fun K hK => ?_) AllReadyH.nil
      refine wp_app (.tmp 74) (.tmp 77) _ (by rfl) ga 55 i0 _ 3 24 Try.underlying46 hi hz0 hz1 hz2 rfl (by omega) (.slice (some ⟨ga, 0, none⟩) 0 0) 0 [] (by rfl) hown (.slice A3 n c3) n (t3s q.steps) (by rfl) (HT3.out.later B) (t3s_one _) (by simp only [maxLen]; omega) (by omega) (Nat.le_of_lt hgV) ?_
      intro v1 V2 ho1 hg1 hw1
      rw [Nat.zero_add, List.nil_append] at ho1
      replace B := below_own B hg1 B.size (fun g hg => by have := Option.some.inj hg; simp at this; omega)
      replace G := (hg1.block w.heap.size (lt_at G) (fun e => by have := Option.some.inj e; simp at this; omega)).trans G
      have hgV2 := Nat.le_trans (Nat.le_of_lt hgV) hg1.size
      clear hown hg1 hw1 hgV
      refine hK.out _ _ ⟨cell_list G HE3.out, cell_list G HE4.out⟩ (fun hHeld => ?_)
      clear hK K hHeld V1
      simp only [List.getElem_toArray, List.getElem_cons_succ, List.getElem_cons_zero, Act.put, List.setIfInBounds_toArray, List.set_cons_zero, List.set_cons_succ]
      have hgV := hgV2
      refine wpAnyH_ready (rs := [7]) (by kernel_rfl) (by simp) ?_
      refine AllReadyH.cons rfl (fun K hK => ?_) AllReadyH.nil
      refine wp_app (.tmp 78) (.tmp 80) _ (by rfl) ga 55 i0 _ 3 24 Try.underlying46 hi hz0 hz1 hz2 rfl (by omega) v1 n (t3s q.steps) (by rfl) ho1 (.slice A4 o c4) o (t3s q.over) (by rfl) (HT4.out.later B) (t3s_one _) (by simp only [maxLen]; omega) (by omega) hgV ?_
      intro v2 V3 ho2 hg2 hw2
      replace B := below_own B hg2 B.size (fun g hg => by have := (own_base ho1 hg).1; omega)
      replace G := (hg2.block w.heap.size (lt_at G) (fun e => by have := (own_base ho1 e.symm).1; omega)).trans G
      have T : TAt V3 v2 (q.steps ++ q.over) := by
        have := sliceAt_of_own ho2
        unfold TAt
        rw [List.length_append, HN.out, HO.out]
        rw [show t3s (q.steps ++ q.over) = t3s q.steps ++ t3s q.over by simp [t3s]]
        exact this
      clear ho1 ho2 hg2 hw2 hgV
      refine hK.out _ _ ⟨cell_list G HE3.out, cell_list G HE4.out⟩ (fun hHeld => ?_)
      clear hK K
      simp only [List.getElem_toArray, List.getElem_cons_succ, List.getElem_cons_zero, Act.put, List.setIfInBounds_toArray, List.set_cons_zero, List.set_cons_succ]
      refine wpAnyH_take (i := 8) (v := ?_) rfl (by kernel_rfl) (by kernel_rfl) (by kernel_rfl) (fun _ _ _ h => h) (Or.inl ⟨by kernel_rfl, ?_⟩) (by assumption) ?_
      rotate_left
      · intro w hSw
        try dsimp only at hSw
        go_simp
        try with_reducible rfl
      simp only [List.getElem_toArray, List.getElem_cons_succ, List.getElem_cons_zero, Act.put, List.setIfInBounds_toArray, List.set_cons_zero, List.set_cons_succ]
      clear hHeld
      refine wpAnyH_done (by kernel_rfl) ?_ _
      go_wp2
      go_meet
      exact ⟨B, G, H0.out.later B, T⟩
    case rest =>
      obtain ⟨all, hall⟩ : ∃ l, q.steps ++ q.over = l := ⟨_, rfl⟩
      rw [hall] at hcut
      have HL : Hid (all.length = n + o) := Lib.hid (by rw [← hall, List.length_append, HN.out, HO.out])
      have V := hcut
      clear y3 y4 B G hall hcut HT3 HT4
      obtain ⟨Aa, ca, rfl⟩ := V.t.form
      obtain ⟨ml, hml⟩ : ∃ l, all.length = l := ⟨_, rfl⟩
      have HML := Lib.hid hml
      rw [hml]
      have hml2 : ml ≤ 14 := by have := HL.out; have := HML.out; omega
      clear hml
      go_wp2
      go_loopw [5] (fun i wr => ∃ k : Nat, k ≤ ml ∧ i = .int .i64 k ∧ RV w wr cs q (.slice Aa ml ca) all) (fun i _ => ml - (intOf i).toNat)
      case atStart => exact ⟨0, Nat.zero_le _, rfl, by rw [← HML.out]; exact V⟩
      case round =>
        clear V
        obtain ⟨k, hk, rfl, V⟩ := hrel
        by_cases hkl : k < ml
        · have i1 : (k : Int) < (ml : Int) := by omega
          have i2 : decide (k < ml) = true := decide_eq_true hkl
          go_wp2
          go_loopw [6] (fun j wj => ∃ i : Nat, i ≤ k ∧ j = .int .i64 i ∧ RV w wj cs q (.slice Aa ml ca) all) (fun j _ => k - (intOf j).toNat)
          case atStart => exact ⟨0, Nat.zero_le _, rfl, V⟩
          case round =>
            clear V
            obtain ⟨i, hik, rfl, V⟩ := hrel
            by_cases hil : i < k
            · have j1 : (i : Int) < (ml : Int) := by omega
              have j2 : decide (i < k) = true := decide_eq_true hil
              obtain ⟨x, hx⟩ : ∃ x, all[i]? = some x := ⟨_, List.getElem?_eq_getElem (by rw [HML.out]; omega)⟩
              obtain ⟨y, hy⟩ : ∃ x, all[k]? = some x := ⟨_, List.getElem?_eq_getElem (by rw [HML.out]; omega)⟩
              obtain ⟨ba, oa, cca, hva, x0, x1, x2⟩ := t3_cells V.t hx
              obtain ⟨bb, ob, ccb, hvb, y0, y1, y2⟩ := t3_cells V.t hy
              obtain ⟨rfl, _, rfl⟩ := Value.slice.inj hva
              obtain ⟨hb1, _, hb2⟩ := Value.slice.inj hvb
              obtain ⟨rfl, rfl⟩ : ba = bb ∧ oa = ob := by cases hb1; exact ⟨rfl, rfl⟩
              obtain ⟨d, hd⟩ : ∃ d, (x.1 == y.1) = d := ⟨_, rfl⟩
              clear hva hvb hb1 hb2 x1 x2 y1 y2 hx hy
              obtain ⟨a1, a2, a3⟩ := x
              obtain ⟨b1, b2, b3⟩ := y
              simp only at x0 y0 hd
              go_upto_region 11 with (fail)
              cases d
              · go_quiet (fail)
                go_wp2
                go_roundw
                case rel => exact ⟨i + 1, by omega, by go_num, V.later (below_drewN (Below.refl _ _) _)⟩
                case measure => simp [intOf]; omega
              · go_quiet (fail)
                go_wp2
                go_ret
                exact ⟨(V.later (below_drewN (Below.refl _ _) _)).bel, rt17_no q⟩
            · obtain rfl : i = k := by omega
              have j2 : decide (i < i) = false := decide_eq_false (by omega)
              go_wp2
              go_roundw
              case rel => exact ⟨i + 1, by omega, by go_num, V⟩
              case measure => simp [intOf]; omega
        · obtain rfl : k = ml := by omega
          have i2 : decide (k < k) = false := decide_eq_false (by omega)
          obtain ⟨⟨n1, n2⟩, n3, n4, n5⟩ := HNN.out
          go_wp2
          go_loopw [7] (fun i wr => ∃ p : Nat, p ≤ 12 ∧ n ≤ p ∧ i = .int .i64 p ∧ RV w wr cs q (.slice Aa k ca) all) (fun i _ => 12 - (intOf i).toNat)
          case atStart => exact ⟨n, n2, Nat.le_refl _, rfl, V⟩
          case round =>
            clear V
            obtain ⟨p, hp, hnp, rfl, V⟩ := hrel
            by_cases hpl : p < 12
            · have i3 : (p : Int) < 12 := by omega
              have i4 : decide ((p : Int) < 12) = true := decide_eq_true i3
              have i5 : decide (p < 12) = true := decide_eq_true hpl
              obtain ⟨d, hd⟩ : ∃ d, q.was.getD p false = d := ⟨_, rfl⟩
              have yw := cell_list V.g (V.h.was p hpl)
              rw [hd] at yw
              clear hd
              cases d
              · go_wp2
                go_roundw
                case rel => exact ⟨p + 1, by omega, by omega, by go_num, V⟩
                case measure => simp [intOf]; omega
              · go_wp2
                go_ret
                exact ⟨V.bel, rt17_no q⟩
            · obtain rfl : p = 12 := by omega
              have i4 : decide (((12 : Nat) : Int) < 12) = false := rfl
              have y5 := cell_list V.g HE5.out
              clear hp hnp hpl
              go_wp2
              go_loopw [8] (fun i wr => ∃ s : Nat, s ≤ m ∧ i = .int .i64 s ∧ RV w wr cs q (.slice Aa k ca) all ∧ Hid (∀ (j : Nat) (x : T3), j < s → q.needs[j]? = some x → needOk n x)) (fun i _ => m - (intOf i).toNat)
              case atStart => exact ⟨0, Nat.zero_le _, rfl, V, Lib.hid (fun j x hj => by omega)⟩
              case round =>
                clear V y5
                obtain ⟨s, hs, rfl, V, HK⟩ := hrel
                have y5 := cell_list V.g HE5.out
                by_cases hsm : s < m
                · have j1 : (s : Int) < (m : Int) := by omega
                  have j2 : decide (s < m) = true := decide_eq_true hsm
                  obtain ⟨x, hx⟩ : ∃ x, q.needs[s]? = some x := ⟨_, List.getElem?_eq_getElem (by rw [HM.out]; omega)⟩
                  obtain ⟨bp, op, cc, hv', x0, x1, x2⟩ := t3_cells (HT5.out.later V.bel) hx
                  obtain ⟨rfl, _, rfl⟩ := Value.slice.inj hv'
                  have HX := Lib.hid hx
                  obtain ⟨a, b, c⟩ := x
                  simp only at x0 x1 x2
                  clear hv' hx
                  go_upto_region 22 with (fail)
                  have G5 := new_at (w := wr) rfl (.cells #[.int .i64 a, .int .i64 b, .int .i64 c] 59)
                  have bA := below_new wr (.cells #[.int .i64 a, .int .i64 b, .int .i64 c] 59)
                  replace V := V.later bA
                  generalize wr.alloc (.cells #[.int .i64 a, .int .i64 b, .int .i64 c] 59) = U at *
                  generalize wr.heap.size = g5 at *
                  clear x0 x1 x2 bA y5
                  have z0 := cell_at G5 0
                  have z1 := cell_at G5 1
                  have z2 := cell_at G5 2
                  obtain ⟨d1, hd1⟩ : ∃ d, decide (c < 0) = d := ⟨_, rfl⟩
                  cases d1
                  rotate_left
                  · go_wp2
                    go_ret
                    exact ⟨V.bel, rt17_no q⟩
                  obtain ⟨d2, hd2⟩ : ∃ d, decide ((n : Int) < c) = d := ⟨_, rfl⟩
                  cases d2
                  rotate_left
                  · go_wp2
                    go_ret
                    exact ⟨V.bel, rt17_no q⟩
                  obtain ⟨d3, hd3⟩ : ∃ d, decide (a < 0) = d := ⟨_, rfl⟩
                  cases d3
                  rotate_left
                  · go_wp2
                    go_ret
                    exact ⟨V.bel, rt17_no q⟩
                  obtain ⟨d4, hd4⟩ : ∃ d, decide (24 ≤ a) = d := ⟨_, rfl⟩
                  cases d4
                  rotate_left
                  · go_wp2
                    go_ret
                    exact ⟨V.bel, rt17_no q⟩
                  obtain ⟨d5, hd5⟩ : ∃ d, decide (b < 0) = d := ⟨_, rfl⟩
                  cases d5
                  rotate_left
                  · go_wp2
                    go_ret
                    exact ⟨V.bel, rt17_no q⟩
                  obtain ⟨d6, hd6⟩ : ∃ d, decide (1 < b) = d := ⟨_, rfl⟩
                  cases d6
                  rotate_left
                  · go_wp2
                    go_ret
                    exact ⟨V.bel, rt17_no q⟩
                  have HF : Hid (needOk n (a, b, c)) := Lib.hid (by
                    have := of_decide_eq_false hd1
                    have := of_decide_eq_false hd2
                    have := of_decide_eq_false hd3
                    have := of_decide_eq_false hd4
                    have := of_decide_eq_false hd5
                    have := of_decide_eq_false hd6
                    refine ⟨?_, ?_, ?_, ?_, ?_, ?_⟩ <;> simp only <;> omega)
                  go_wp2
                  go_roundw
                  case rel => exact ⟨s + 1, by omega, by go_num, V, Lib.hid (fun j x hj hx => by
                    rcases Nat.lt_or_ge j s with h1 | h1
                    · exact HK.out j x h1 hx
                    · obtain rfl : j = s := by omega
                      rw [HX.out] at hx; cases hx; exact HF.out)⟩
                  case measure => simp [intOf]; omega
                · obtain rfl : s = m := by omega
                  have j2 : decide (s < s) = false := decide_eq_false (by omega)
                  go_wp2
                  go_ret
                  refine ⟨V.bel, true, rfl, fun _ => ⟨by rw [HN.out]; exact n1, by rw [HN.out]; exact n2, by rw [HO.out]; exact n3, by rw [HG.out]; exact n4, by rw [HG.out, HN.out]; exact n5, fun x hx => ?_⟩⟩
                  obtain ⟨j, hj⟩ := List.getElem?_of_mem hx
                  rw [HN.out]
                  exact HK.out j x (by rw [← HM.out]; exact (List.getElem?_eq_some_iff.1 hj).1) hj
end Go.Proofs.Ytkmioplegjeopaa
