/- AspectStale: for every argument the statement's Go text returns true and turns nothing that was there. It is proved at every argument, without a condition beyond the row. -/
import Derived.Test.YtghnpjmdadnnkaaAspY
import Derived.Test.YtghnpjmdadnnkaaAspG8
import Derived.Test.YtghnpjmdadnnkaaAspL
import Derived.Test.YtghnpjmdadnnkaaFrame
import Derived.Deep.RegionHeld3
import Derived.Deep.CutRange
import Derived.Deep.DrawnRows
namespace Go.Proofs.Ytghnpjmdadnnkaa.aspectStale
open Go.ChangeShapes Go.WideShapes Go.ChangeAt Go.RowKit Rf
attribute [local go_sem ↓] run_max2 run_min2
open Mem Bv AM
theorem gr_of {ns nsig nfl : Nat} {lens : List Nat} (h : greatV ns nsig nfl lens = false) : True := trivial
theorem stale_at (kinds : List Int) (nor rev : BitVec 32) (n : Int) : atV kinds nor rev true n = -1 := by unfold atV; simp
theorem stale_lit (nsig : Nat) (lam : BitVec 32) (n : Int) : litV nsig lam true n = false := by unfold litV; simp
/-- what the law knows, as a variable's worth -/
structure KV (w W : World) (I : IM) (L M K : List Value) (vh : Value) (css : List (List Value)) (hs : List HeldM) (nx : Int) (ms : List (Int × Int × Bool)) : Prop where
  bel : Below w.heap.size w W
  v : V2 W w.heap.size (w.heap.size + 1) L M
  kb : W.heap[w.heap.size + 1 + 1]? = some (.cells K.toArray 41 (0, 0))
  a : IMA I L M W
  k : KerAt W K vh css hs nx ms
theorem KV.later {w W W' : World} {I : IM} {L M K : List Value} {vh : Value} {css : List (List Value)} {hs : List HeldM} {nx : Int} {ms : List (Int × Int × Bool)} (h : KV w W I L M K vh css hs nx ms) (b : Below W.heap.size W W') : KV w W' I L M K vh css hs nx ms :=
  ⟨below_step h.bel b, h.v.later b, var_later h.kb b, h.a.later b, h.k.later b⟩
/-- is a need for 0 or for 1 among the first ones? -/
def knownB (l : List T3) : Bool := l.any fun x => x.2.1 == 0 || x.2.1 == 1
theorem knownB_snoc (l : List T3) (x : T3) : knownB (l ++ [x]) = (knownB l || (x.2.1 == 0 || x.2.1 == 1)) := by simp [knownB, List.any_append]
theorem stale_proves {I : IM} (hst : I.stale = true) (q : HeldM) (hk : knownB (needsL q) = true) : provesB I.stand q = false := by
  obtain ⟨x, hx, h1⟩ := List.any_eq_true.1 hk
  unfold provesB
  cases hall : (needsL q).all fun n => I.stand n.1 == n.2.1
  · rfl
  · have := List.all_eq_true.1 hall x hx
    have hs : I.stand x.1 = -1 := by show atV I.kinds I.nor I.rev I.stale x.1 = -1; rw [hst]; exact stale_at _ _ _ _
    rw [hs] at this
    simp at this h1
    omega
theorem stale_clear {I : IM} (hst : I.stale = true) (q : HeldM) : clearB I.stand I.occB I.litB q = false := by
  unfold clearB
  rw [show I.litB q.sig = false by show litV I.nsig I.lam I.stale q.sig = false; rw [hst]; exact stale_lit _ _ _]
  simp
set_option maxHeartbeats 8000000 in
set_option maxRecDepth 100000 in
theorem walk (I : IM) (L M K : List Value) (nfl : Nat) (lens : List Nat) (A3 : Option Addr) (c3 : Nat) (ve : Value) (vh : Value) (css : List (List Value)) (hs : List HeldM) (nx : Int) (ms : List (Int × Int × Bool)) (w : World) (hA : IMA I L M w) (hK : KerAt w K vh css hs nx ms) (h2 : L[2]? = some ve) (h3 : L[3]? = some (.slice A3 nfl c3)) (hE : ExsAt w ve lens) :
    Calls Try.prog 5 #[.agg L.toArray, .agg M.toArray, .agg K.toArray] w fun e w' => e = .returned (.bool true) ∧ Below w.heap.size w w' := by
  have szL := lay_size hA.f.l.len
  have szM := img_size hA.f.m.len
  have szK := ker_size hK.len
  have hll := hK.hs.len
  obtain ⟨W0, hW0⟩ : ∃ W0, ((w.alloc (.cells L.toArray 29)).alloc (.cells M.toArray 35)).alloc (.cells K.toArray 41) = W0 := ⟨_, rfl⟩
  have B0 : Below w.heap.size w W0 := by rw [← hW0]; exact below_step (below_step (below_new _ _) (below_new _ _)) (below_new _ _)
  have V : KV w W0 I L M K vh css hs nx ms := ⟨B0, by rw [← hW0]; exact ⟨old_at (old_at (new_at rfl _) _) _, old_at (new_at (by simp) _) _⟩, by rw [← hW0]; exact new_at (by simp) _, hA.later B0, hK.later B0⟩
  have hE0 := hE.later B0
  have HE := Lib.hid hE0
  clear hA hK hE hE0 B0
  obtain ⟨s, hs0⟩ : ∃ s, I.stale = s := ⟨_, rfl⟩
  have HS := Lib.hid hs0
  clear hs0
  go_enter Try.func5, Try.ntmps5
  go_upto_region 1 with (fail)
  generalize ((w.alloc (.cells L.toArray 29)).alloc (.cells M.toArray 35)).alloc (.cells K.toArray 41) = W0' at *
  subst hW0
  have RL := range_of V.v.l
  go_wp2_with (first
    | refine wpList_load_g (by rfl) 29 (.tmp 3) (by rfl) w.heap.size 0 (by rfl) L _ RL Try.underlying29 rfl szL ?_
    | fail)
  refine (Great_c L I.kinds.length I.nsig nfl lens I.A I.A1 A3 I.c I.c1 c3 ve _ V.a.f.l.sec V.a.f.l.sig h2 h3 HE.out).mono ?_
  rintro e W1 ⟨he, b1⟩
  obtain ⟨g1, hg1⟩ : ∃ g, greatV I.kinds.length I.nsig nfl lens = g := ⟨_, rfl⟩
  rw [hg1] at he
  subst he
  replace V := V.later b1
  clear b1 hg1 RL
  cases g1
  rotate_left
  · go_wp2_with fail
    refine (wakes_c _).mono ?_
    rintro e W2 ⟨rfl, b2⟩
    have B := below_step V.bel b2
    go_wp2
    go_ret
    exact ⟨rfl, B⟩
  have RK := range_of V.kb
  go_wp2_with (first
    | refine wpList_load_g (by rfl) 41 (.tmp 5) (by rfl) (w.heap.size + 1 + 1) 0 (by rfl) K _ RK Try.underlying41 rfl szK ?_
    | fail)
  refine (Great18_c K vh css hs nx ms _ V.k).mono ?_
  rintro e W2 ⟨b2, g2, rfl, hsm⟩
  replace V := V.later b2
  clear b2 RK
  have HSM := Lib.hid hsm
  clear hsm
  cases g2
  rotate_left
  · go_wp2_with fail
    refine (wakes_c _).mono ?_
    rintro e W3 ⟨rfl, b3⟩
    have B := below_step V.bel b3
    go_wp2
    go_ret
    exact ⟨rfl, B⟩
  have RL := range_of V.v.l
  have RM := range_of V.v.m
  go_wp2_with (first
    | refine wpList_load_g (by rfl) 29 (.tmp 3) (by rfl) w.heap.size 0 (by rfl) L _ RL Try.underlying29 rfl szL ?_
    | refine wpList_load_g (by rfl) 35 (.tmp 4) (by rfl) (w.heap.size + 1) 0 (by rfl) M _ RM Try.underlying35 rfl szM ?_
    | fail)
  refine (rstale_c I L M s _ HS.out.symm V.a.f).mono ?_
  rintro e W3 ⟨rfl, b3⟩
  replace V := V.later b3
  clear b3 RL RM
  cases s
  · go_wp2_with fail
    refine (wakes_c _).mono ?_
    rintro e W4 ⟨rfl, b4⟩
    have B := below_step V.bel b4
    go_wp2
    go_ret
    exact ⟨rfl, B⟩
  obtain ⟨hl10, hsm⟩ := HSM.out trivial
  have HSS := Lib.hid hsm
  clear HSM hsm
  obtain ⟨Ah, ch, rfl, _⟩ := V.k.hs.sl.form
  obtain ⟨n, hn⟩ : ∃ n, css.length = n := ⟨_, rfl⟩
  have HN := Lib.hid hn
  have HH := Lib.hid (hn ▸ V.k.held)
  have hn1 : n ≤ 10 := by omega
  clear hn hll hl10
  go_wp2
  go_loopw [7] (fun i wr => ∃ k : Nat, k ≤ n ∧ i = .int .i64 k ∧ KV w wr I L M K (.slice Ah css.length ch) css hs nx ms) (fun i _ => n - (intOf i).toNat)
  case atStart => exact ⟨0, Nat.zero_le _, rfl, V⟩
  case round =>
    clear V
    obtain ⟨k, hk, rfl, V⟩ := hrel
    have y1 := cell_list V.kb HH.out
    by_cases hlt : k < n
    · have hcl : css.length = n := HN.out
      obtain ⟨cs, hcs⟩ : ∃ s, css[k]? = some s := ⟨_, List.getElem?_eq_getElem (by omega)⟩
      obtain ⟨q, hq⟩ : ∃ s, hs[k]? = some s := ⟨_, List.getElem?_eq_getElem (by rw [← V.k.hs.len]; omega)⟩
      obtain ⟨b, off, c', hv, hr⟩ := V.k.hs.row hcs
      have hHq := V.k.hs.at_ k cs q hcs hq
      obtain ⟨rfl, _, rfl⟩ := Value.slice.inj hv
      obtain ⟨s1, s2, s3⟩ := HSS.out q (List.mem_of_getElem? hq)
      have szS := held_size hHq.len
      have i1 : (k : Int) < (n : Int) := by omega
      have i2 : decide (k < n) = true := decide_eq_true hlt
      have HC := Lib.hid (And.intro hcs hq)
      clear hcs hq hv hcl
      go_wp2_with (first
        | refine wpList_load_g (by rfl) 52 (.tmp 34) (by rfl) b (off + k * 23) (by rfl) cs _ hr Try.underlying52 rfl szS ?_
        | fail)
      refine (refNeeds_c cs q _ hHq (by omega)).mono ?_
      rintro e W4 ⟨vn, rfl, b4, TN⟩
      replace V := V.later b4
      clear b4 hr y1 hHq
      obtain ⟨l, hl⟩ : ∃ l, needsL q = l := ⟨_, rfl⟩
      have hll : l.length ≤ 100 := by rw [← hl]; exact Nat.le_trans (List.length_filter_le _ _) s3
      rw [hl] at TN
      have HL := Lib.hid hl
      obtain ⟨An, cn, rfl⟩ := TN.form
      have HT := Lib.hid TN
      clear hl TN
      go_wp2
      go_loopw [9, 10] (fun kv jv wj => ∃ m : Nat, m ≤ l.length ∧ jv = .int .i64 m ∧ kv = .bool (knownB (l.take m)) ∧ wj = W4) (fun kv jv _ => l.length - (intOf jv).toNat)
      case atStart => exact ⟨0, Nat.zero_le _, rfl, rfl, rfl⟩
      case round =>
        obtain ⟨m, hm, rfl, rfl, rfl⟩ := hrel
        obtain ⟨kb, hkb⟩ : ∃ kb, knownB (l.take m) = kb := ⟨_, rfl⟩
        rw [hkb]
        have HKB := Lib.hid hkb
        clear hkb
        by_cases hml : m < l.length
        · have j1 : (m : Int) < (l.length : Int) := by omega
          have j2 : decide (m < l.length) = true := decide_eq_true hml
          obtain ⟨x, hx⟩ : ∃ x, l[m]? = some x := ⟨_, List.getElem?_eq_getElem hml⟩
          obtain ⟨bp, op, cc, hv', x0, x1, x2⟩ := t3_cells HT.out hx
          obtain ⟨rfl, _, rfl⟩ := Value.slice.inj hv'
          have HX : Hid (l.take (m + 1) = l.take m ++ [x]) := Lib.hid (by rw [List.take_add_one, hx]; rfl)
          obtain ⟨a1, p1, c1'⟩ := x
          simp only at x0 x1 x2
          have HKS := Lib.hid (knownB_snoc (l.take m) (a1, p1, c1'))
          clear hv' hx
          cases kb
          · obtain ⟨d1, hd1⟩ : ∃ d, (p1 == 0) = d := ⟨_, rfl⟩
            obtain ⟨d2, hd2⟩ : ∃ d, (p1 == 1) = d := ⟨_, rfl⟩
            have HD1 := Lib.hid hd1
            have HD2 := Lib.hid hd2
            cases d1
            · cases d2
              · go_wp2
                go_roundw
                case rel => exact ⟨m + 1, hml, by go_num, by rw [HX.out, HKS.out, HKB.out]; show _ = Value.bool (false || (p1 == 0 || p1 == 1)); rw [HD1.out, HD2.out]; rfl, trivial⟩
                case measure => simp [intOf]; omega
              · go_wp2
                go_roundw
                case rel => exact ⟨m + 1, hml, by go_num, by rw [HX.out, HKS.out, HKB.out]; show _ = Value.bool (false || (p1 == 0 || p1 == 1)); rw [HD1.out, HD2.out]; rfl, trivial⟩
                case measure => simp [intOf]; omega
            · go_wp2
              go_roundw
              case rel => exact ⟨m + 1, hml, by go_num, by rw [HX.out, HKS.out, HKB.out]; show _ = Value.bool (false || (p1 == 0 || p1 == 1)); rw [HD1.out]; rfl, trivial⟩
              case measure => simp [intOf]; omega
          · go_wp2
            go_roundw
            case rel => exact ⟨m + 1, hml, by go_num, by rw [HX.out, HKS.out, HKB.out]; rfl, trivial⟩
            case measure => simp [intOf]; omega
        · obtain rfl : m = l.length := by omega
          have j2 : decide (l.length < l.length) = false := decide_eq_false (by omega)
          rw [List.take_length] at HKB
          have hcl : css.length = n := HN.out
          obtain ⟨b', off', c'', hv, hr⟩ := V.k.hs.row HC.out.1
          obtain ⟨hv1, _, hv2⟩ := Value.slice.inj hv
          have hHq := V.k.hs.at_ k cs q HC.out.1 HC.out.2
          obtain ⟨hv3, hv4⟩ : b = b' ∧ off = off' := by cases hv1; exact ⟨rfl, rfl⟩
          rw [← hv3, ← hv4] at hr
          clear hv hv1 hv2 hv3 hv4 hcl
          have HQ := Lib.hid hHq
          clear hHq
          have blt := World.block_lt_of_cell? _ _ (hr 0 _ HQ.out.id)
          cases kb
          · go_upto_region 12 with (fail)
            refine wp_region_held_drew (S := (fun _ => True)) (by kernel_rfl) ?_ (fun hHeld => ?_)
            · trivial
            replace V := V.later (Below.refl _ wr).drew
            clear HT hr HQ blt
            generalize wr.drew = X at *
            refine wpAnyH_take (i := 0) (v := ?_) rfl (by kernel_rfl) (by kernel_rfl) (by kernel_rfl) (fun _ _ _ h => h) (Or.inl ⟨by kernel_rfl, ?_⟩) (by assumption) ?_
            rotate_left
            · intro w hSw
              try dsimp only at hSw
              go_simp
              try with_reducible rfl
            simp only [List.getElem_toArray, List.getElem_cons_succ, List.getElem_cons_zero, Act.put, List.setIfInBounds_toArray, List.set_cons_zero, List.set_cons_succ]
            refine wpAnyH_take (i := 1) (v := ?_) rfl (by kernel_rfl) (by kernel_rfl) (by kernel_rfl) (fun _ _ _ h => h) (Or.inl ⟨by kernel_rfl, ?_⟩) (by assumption) ?_
            rotate_left
            · intro w hSw
              try dsimp only at hSw
              go_simp
              try with_reducible rfl
            simp only [List.getElem_toArray, List.getElem_cons_succ, List.getElem_cons_zero, Act.put, List.setIfInBounds_toArray, List.set_cons_zero, List.set_cons_succ]
            refine wpAnyH_take (i := 2) (v := undef) rfl (by kernel_rfl) (by kernel_rfl) (by kernel_rfl) (fun _ _ _ h => h) (Or.inr ⟨by kernel_rfl, rfl⟩) (by assumption) ?_
            refine wpAnyH_take (i := 3) (v := undef) rfl (by kernel_rfl) (by kernel_rfl) (by kernel_rfl) (fun _ _ _ h => h) (Or.inr ⟨by kernel_rfl, rfl⟩) (by assumption) ?_
            refine wpAnyH_take (i := 4) (v := undef) rfl (by kernel_rfl) (by kernel_rfl) (by kernel_rfl) (fun _ _ _ h => h) (Or.inr ⟨by kernel_rfl, rfl⟩) (by assumption) ?_
            refine wpAnyH_take (i := 5) (v := undef) rfl (by kernel_rfl) (by kernel_rfl) (by kernel_rfl) (fun _ _ _ h => h) (Or.inr ⟨by kernel_rfl, rfl⟩) (by assumption) ?_
            refine wpAnyH_take (i := 6) (v := undef) rfl (by kernel_rfl) (by kernel_rfl) (by kernel_rfl) (fun _ _ _ h => h) (Or.inr ⟨by kernel_rfl, rfl⟩) (by assumption) ?_
            refine wpAnyH_take (i := 7) (v := undef) rfl (by kernel_rfl) (by kernel_rfl) (by kernel_rfl) (fun _ _ _ h => h) (Or.inr ⟨by kernel_rfl, rfl⟩) (by assumption) ?_
            refine wpAnyH_take (i := 8) (v := undef) rfl (by kernel_rfl) (by kernel_rfl) (by kernel_rfl) (fun _ _ _ h => h) (Or.inr ⟨by kernel_rfl, rfl⟩) (by assumption) ?_
            refine wpAnyH_take (i := 9) (v := undef) rfl (by kernel_rfl) (by kernel_rfl) (by kernel_rfl) (fun _ _ _ h => h) (Or.inr ⟨by kernel_rfl, rfl⟩) (by assumption) ?_
            simp only [List.getElem_toArray, List.getElem_cons_succ, List.getElem_cons_zero, Act.put, List.setIfInBounds_toArray, List.set_cons_zero, List.set_cons_succ]
            refine wpAnyH_take (i := 10) (v := ?_) rfl (by kernel_rfl) (by kernel_rfl) (by kernel_rfl) (fun _ _ _ h => h) (Or.inl ⟨by kernel_rfl, ?_⟩) (by assumption) ?_
            rotate_left
            · intro w hSw
              try dsimp only at hSw
              go_simp
              try with_reducible rfl
            simp only [List.getElem_toArray, List.getElem_cons_succ, List.getElem_cons_zero, Act.put, List.setIfInBounds_toArray, List.set_cons_zero, List.set_cons_succ]
            clear hHeld
            refine wpAnyH_done (by kernel_rfl) ?_ _
            go_wp2
            go_roundw
            case rel => exact ⟨k + 1, by omega, by go_num, V⟩
            case measure => simp [intOf]; omega
          · have hkn : knownB (needsL q) = true := by rw [HL.out]; exact HKB.out
            have HPR := Lib.hid (stale_proves HS.out q hkn).symm
            clear hkn
            go_upto_region 12 with (fail)
            refine wp_region_held_drew (S := (fun w' => w'.rangeAt w.heap.size 0 L ∧ w'.rangeAt (w.heap.size + 1) 0 M ∧ w'.cell? ⟨w.heap.size + 1 + 1, 1, none⟩ = some (.slice (some ⟨b, off, none⟩) n ch) ∧ w'.rangeAt b (off + k * 23) cs)) (by kernel_rfl) ?_ (fun hHeld => ?_)
            · exact ⟨range_of V.v.l, range_of V.v.m, cell_list V.kb HH.out, hr⟩
            have hr' : wr.drew.rangeAt b (off + k * 23) cs := hr
            have bd : Below wr.heap.size wr wr.drew := (Below.refl _ wr).drew
            have HQ2 := Lib.hid (HQ.out.later bd)
            have blt' : b < wr.drew.heap.size := blt
            replace V := V.later bd
            clear HT hr HQ blt bd
            generalize wr.drew = X at *
            refine wpAnyH_take (i := 0) (v := ?_) rfl (by kernel_rfl) (by kernel_rfl) (by kernel_rfl) (fun _ _ _ h => h) (Or.inl ⟨by kernel_rfl, ?_⟩) (by assumption) ?_
            rotate_left
            · intro w hSw
              try dsimp only at hSw
              go_simp
              try with_reducible rfl
            simp only [List.getElem_toArray, List.getElem_cons_succ, List.getElem_cons_zero, Act.put, List.setIfInBounds_toArray, List.set_cons_zero, List.set_cons_succ]
            refine wpAnyH_take (i := 1) (v := ?_) rfl (by kernel_rfl) (by kernel_rfl) (by kernel_rfl) (fun _ _ _ h => h) (Or.inl ⟨by kernel_rfl, ?_⟩) (by assumption) ?_
            rotate_left
            · intro w hSw
              try dsimp only at hSw
              go_simp
              try with_reducible rfl
            simp only [List.getElem_toArray, List.getElem_cons_succ, List.getElem_cons_zero, Act.put, List.setIfInBounds_toArray, List.set_cons_zero, List.set_cons_succ]
            refine wpAnyH_take (i := 2) (v := .agg (L : List Value).toArray) rfl (by kernel_rfl) (by kernel_rfl) (by kernel_rfl) (fun _ _ _ h => h) (yieldsIf_load_mid (by kernel_rfl) 29 (.tmp 3) (by kernel_rfl) (w.heap.size) 0 (by kernel_rfl) L _ (fun w' h => h.1) (by first | exact Try.underlying29) rfl (by first | assumption | (simp only [*]; kernel_rfl))) (by assumption) ?_
            try simp only [List.getElem_toArray, List.getElem_cons_succ, List.getElem_cons_zero, Act.put, List.setIfInBounds_toArray, List.set_cons_zero, List.set_cons_succ]
            refine wpAnyH_take (i := 3) (v := .agg (M : List Value).toArray) rfl (by kernel_rfl) (by kernel_rfl) (by kernel_rfl) (fun _ _ _ h => h) (yieldsIf_load_mid (by kernel_rfl) 35 (.tmp 4) (by kernel_rfl) (w.heap.size + 1) 0 (by kernel_rfl) M _ (fun w' h => h.2.1) (by first | exact Try.underlying35) rfl (by first | assumption | (simp only [*]; kernel_rfl))) (by assumption) ?_
            try simp only [List.getElem_toArray, List.getElem_cons_succ, List.getElem_cons_zero, Act.put, List.setIfInBounds_toArray, List.set_cons_zero, List.set_cons_succ]
            refine wpAnyH_take (i := 4) (v := ?_) rfl (by kernel_rfl) (by kernel_rfl) (by kernel_rfl) (fun _ _ _ h => h) (Or.inl ⟨by kernel_rfl, ?_⟩) (by assumption) ?_
            rotate_left
            · intro w hSw
              try dsimp only at hSw
              go_simp
              try with_reducible rfl
            simp only [List.getElem_toArray, List.getElem_cons_succ, List.getElem_cons_zero, Act.put, List.setIfInBounds_toArray, List.set_cons_zero, List.set_cons_succ]
            refine wpAnyH_take (i := 5) (v := ?_) rfl (by kernel_rfl) (by kernel_rfl) (by kernel_rfl) (fun _ _ _ h => h) (Or.inl ⟨by kernel_rfl, ?_⟩) (by assumption) ?_
            rotate_left
            · intro w hSw
              try dsimp only at hSw
              go_simp
              try with_reducible rfl
            simp only [List.getElem_toArray, List.getElem_cons_succ, List.getElem_cons_zero, Act.put, List.setIfInBounds_toArray, List.set_cons_zero, List.set_cons_succ]
            refine wpAnyH_take (i := 6) (v := ?_) rfl (by kernel_rfl) (by kernel_rfl) (by kernel_rfl) (fun _ _ _ h => h) (Or.inl ⟨by kernel_rfl, ?_⟩) (by assumption) ?_
            rotate_left
            · intro w hSw
              try dsimp only at hSw
              go_simp
              try with_reducible rfl
            simp only [List.getElem_toArray, List.getElem_cons_succ, List.getElem_cons_zero, Act.put, List.setIfInBounds_toArray, List.set_cons_zero, List.set_cons_succ]
            refine wpAnyH_take (i := 7) (v := ?_) rfl (by kernel_rfl) (by kernel_rfl) (by kernel_rfl) (fun _ _ _ h => h) (Or.inl ⟨by kernel_rfl, ?_⟩) (by assumption) ?_
            rotate_left
            · intro w hSw
              try dsimp only at hSw
              go_simp
              try with_reducible rfl
            simp only [List.getElem_toArray, List.getElem_cons_succ, List.getElem_cons_zero, Act.put, List.setIfInBounds_toArray, List.set_cons_zero, List.set_cons_succ]
            refine wpAnyH_take (i := 8) (v := .agg (cs : List Value).toArray) rfl (by kernel_rfl) (by kernel_rfl) (by kernel_rfl) (fun _ _ _ h => h) (yieldsIf_load_mid (by kernel_rfl) 52 (.tmp 67) (by kernel_rfl) (b) (off + k * 23) (by kernel_rfl) cs _ (fun w' h => h.2.2.2) (by first | exact Try.underlying52) rfl (by first | assumption | (simp only [*]; kernel_rfl) | kernel_rfl)) (by assumption) ?_
            simp only [List.getElem_toArray, List.getElem_cons_succ, List.getElem_cons_zero, Act.put, List.setIfInBounds_toArray, List.set_cons_zero, List.set_cons_succ]
            clear hHeld
            refine ready1 (i := 9) rfl (by kernel_rfl) (by kernel_rfl) (fun K hK => ?_)
            refine Node.wp_fn 19 [.tmp 62, .tmp 63, .tmp 68] _ [.agg L.toArray, .agg M.toArray, .agg cs.toArray] (by rfl) (by kernel_rfl) (enters Try.func19 (by kernel_rfl) rfl) (Proves_c I L M cs q false X HPR.out V.a HQ2.out (by omega)) ?_
            rintro e X' ⟨rfl, bF⟩
            refine ⟨_, rfl, ?_⟩
            replace V := V.later bF
            have hr := range_below hr' bF blt'
            clear bF hr' HQ2 blt'
            refine hK.out _ _ ⟨range_of V.v.l, range_of V.v.m, cell_list V.kb HH.out, hr⟩ (fun hHeld => ?_)
            clear hK K
            try simp only [List.getElem_toArray, List.getElem_cons_succ, List.getElem_cons_zero, Act.put, List.setIfInBounds_toArray, List.set_cons_zero, List.set_cons_succ]
            refine wpAnyH_take (i := 10) (v := ?_) rfl (by kernel_rfl) (by kernel_rfl) (by kernel_rfl) (fun _ _ _ h => h) (Or.inl ⟨by kernel_rfl, ?_⟩) (by assumption) ?_
            rotate_left
            · intro w hSw
              try dsimp only at hSw
              go_simp
              try with_reducible rfl
            simp only [List.getElem_toArray, List.getElem_cons_succ, List.getElem_cons_zero, Act.put, List.setIfInBounds_toArray, List.set_cons_zero, List.set_cons_succ]
            clear hHeld
            refine wpAnyH_done (by kernel_rfl) ?_ _
            go_wp2
            go_roundw
            case rel => exact ⟨k + 1, by omega, by go_num, V⟩
            case measure => simp [intOf]; omega
    · obtain rfl : k = n := by omega
      have i2 : decide (k < k) = false := decide_eq_false (by omega)
      have RL := range_of V.v.l
      have RM := range_of V.v.m
      have RK := range_of V.kb
      have hz : ((0 : Nat) : Int) = ((sigW (clearB I.stand I.occB I.litB) hs).toNat : Int) := by rw [sigW_none _ hs (fun h _ => stale_clear HS.out h)]; rfl
      have HZ := Lib.hid hz
      clear hz
      go_wp2_with (first
        | refine wpList_load_g (by rfl) 29 (.tmp 3) (by rfl) w.heap.size 0 (by rfl) L _ RL Try.underlying29 rfl szL ?_
        | refine wpList_load_g (by rfl) 35 (.tmp 4) (by rfl) (w.heap.size + 1) 0 (by rfl) M _ RM Try.underlying35 rfl szM ?_
        | refine wpList_load_g (by rfl) 41 (.tmp 5) (by rfl) (w.heap.size + 1 + 1) 0 (by rfl) K _ RK Try.underlying41 rfl szK ?_
        | fail)
      refine (s1_c I L M K _ css hs nx ms _ 0 HZ.out V.a V.k (by rw [← V.k.hs.len]; have := HN.out; omega) (fun h hh => by obtain ⟨a1, a2, a3⟩ := HSS.out h hh; omega)).mono ?_
      rintro e W4 ⟨rfl, b4⟩
      replace V := V.later b4
      clear b4 RL RM RK
      go_wp2_with fail
      refine (wakes_c _).mono ?_
      rintro e W5 ⟨rfl, b5⟩
      have B := below_step V.bel b5
      go_wp2
      go_ret
      exact ⟨rfl, B⟩

theorem own : ownKnob Try.prog.godebug = none := by kernel_rfl
theorem laidOut : laidOutB Try.prog = true := by kernel_rfl
noncomputable def wit (os : Os) : World := World.holding Try.prog os ⟨#[], #[], []⟩
set_option maxRecDepth 100000 in
theorem lifted (os : Os) (started : os.Started) (H : Type) (enc : TypeId × Value → H) (F : Stop.Interp) :
    ReturnsInHanded {} Try.checked os 5 .any ((OpenSpec.ofChange Rows.aspectStaleSpec).preRow enc Try.prog Try.f5 Rows.aspectStaleRow.domain false Rows.aspectStaleRow.laid) (((OpenSpec.ofChange Rows.aspectStaleSpec).at F).post enc Try.prog Try.f5 false true false false) := by
  obtain ⟨x, hx⟩ : ∃ x, DataW.whole enc Try.prog ((wit os).forCall (fun _ _ => 0) ⟨#[], #[.agg zLay, .agg zImg, .agg (kcL 0 (.slice none 0 0) machL).toArray], []⟩).memory Try.f5.params.toList Rows.aspectStaleSpec.vars false (#[.agg zLay, .agg zImg, .agg (kcL 0 (.slice none 0 0) machL).toArray] : Array Value).toList 8 = some x := Option.isSome_iff_exists.1 (by kernel_rfl)
  refine Fr.lift (C := Try.checked) (s := OpenSpec.ofChange Rows.aspectStaleSpec) own started (by kernel_rfl) Try.func5
    (witness_row_at (enc := enc) (C := Try.checked) false (wit os) #[.agg zLay, .agg zImg, .agg (kcL 0 (.slice none 0 0) machL).toArray] rfl (by kernel_rfl) (by kernel_rfl) (by kernel_rfl)
      (OpenSpec.preRow_of_cond 8 hx rfl (fun k hk => by cases hk) (by kernel_rfl) (laidMet_of_run' 8 (by kernel_rfl) (by kernel_rfl))))
    laidOut (by kernel_rfl) rfl Try.underlying4 rfl rfl ?_ ?_
  · intro ds hds
    match ds, hds with
    | [_, _, _], _ => rfl
  · intro W base args ds before hval hA hlt _ hz hL
    rw [Try.params5] at hA hval
    obtain ⟨v0, vs0, d0, ds0, p0, q0, hargs, rfl, rfl, h0, r0⟩ := trodAll_cons hA
    obtain ⟨v1, vs1, d1, ds1, p1, q1, rfl, rfl, rfl, h1, r1⟩ := trodAll_cons r0
    obtain ⟨v2, vs2, d2, ds2, p2, q2, rfl, rfl, rfl, h2, r2⟩ := trodAll_cons r1
    obtain ⟨rfl, rfl, rfl⟩ := trodAll_nil r2
    obtain rfl : args = #[v0, v1, v2] := by cases args; simp_all
    obtain ⟨L, kinds, ss, lens, nsig, nfl, clr, st, A, c, A1, c1, A3, c3, ve, rfl, hLA⟩ := open_layout (hval 0 _ v0 rfl rfl) h0
    obtain ⟨M, age, free, occ, nor, rev, lam, rfl, hM, hag, hfr⟩ := open_image (hval 1 _ v1 rfl rfl) h1
    obtain ⟨K, vh, css, hs, nx, ms, rfl, hK⟩ := open_kernel (hval 2 _ v2 rfl rfl) h2
    exact walk ⟨kinds, nsig, clr, st, A, c, A1, c1, age, free, occ, nor, rev, lam⟩ L M K nfl lens A3 c3 ve vh css hs nx ms W ⟨⟨hLA.f, hM⟩, hLA.sa⟩ hK hLA.ex hLA.fl hLA.ea

theorem said : Rows.AspectStaleSaid :=
  OpenClaim.holds_of_cond 5 Try.f5 rfl rfl rfl rfl rfl rfl rfl ⟨rfl, rfl, rfl, rfl, rfl⟩ rfl rfl rfl rfl rfl (by kernel_rfl) Try.func5 (by kernel_rfl)
    (of_decide_eq_true (by kernel_rfl)) (by unfold Func.isWrapper; first | (rw [if_pos (by decide +kernel)]; kernel_rfl) | (rw [if_neg (by decide +kernel)]; exact ⟨rfl, rfl⟩))
    (fun os started H enc _ F => by rw [OpenClaim.pre_eq_preRow]; exact lifted os started H enc F)
#print axioms said
end Go.Proofs.Ytghnpjmdadnnkaa.aspectStale
