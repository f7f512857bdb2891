/- Who holds a section: the contract of Holder. Nothing that was there is turned. -/
import Derived.Test.YtppcdmbpbbjecaaGreatShL
namespace Go.Proofs.YtppcdmbpbbjecaaGreat
open Go.RowKit Rf Mem Bv AM
attribute [local go_sem ↓] run_max2 run_min2
attribute [local go_sem] Oper.semAt_some
theorem holdersF_c (K : List Value) (s : Int) (w : World) : Calls Tryz.prog 75 #[.agg K.toArray, .int .i64 s] w fun e W' => e = .returned (.func (.func 102) #[] #[.pointer (some ⟨w.heap.size, 0, none⟩), .pointer (some ⟨w.heap.size + 1, 0, none⟩)]) ∧ (w.alloc (.cells K.toArray 41)).alloc (.cells #[.int .i64 s] 3) = W' := by
  obtain h | h : True ∨ True := .inl trivial
  all_goals
    go_enter Tryz.func75, Tryz.ntmps75
    go_wp2
    go_ret
    exact ⟨rfl, rfl⟩
theorem res_ib {fn : Func} {t u : Tmp} (hf : fn.results = #[.cell t 3, .cell u 4]) {tmps : Array Value} {W : World} {g h : Nat} {x y : Value} {e1 e2 : TypeId} {f1 f2 : Nat × Nat} (hs : tmps.getD t undef = .pointer (some ⟨g, 0, none⟩)) (hs2 : tmps.getD u undef = .pointer (some ⟨h, 0, none⟩))
    (hg : W.heap[g]? = some (.cells #[x] e1 f1)) (hh : W.heap[h]? = some (.cells #[y] e2 f2)) : (results fn tmps).run Tryz.prog W = .ok (.tuple #[x, y]) W := by
  have hs' : tmps[t]?.getD undef = .pointer (some ⟨g, 0, none⟩) := by simpa using hs
  have hs2' : tmps[u]?.getD undef = .pointer (some ⟨h, 0, none⟩) := by simpa using hs2
  have c0 := cell_at hg 0
  have c1 := cell_at hh 0
  simp only [List.getElem?_toArray, List.getElem?_cons_zero] at c0 c1
  have hl : (loadVar 3 ⟨g, 0, none⟩).run Tryz.prog W = .ok x W := by simp [go_sem, c0]
  have hl2 : (loadVar 4 ⟨h, 0, none⟩).run Tryz.prog W = .ok y W := by simp [go_sem, c1]
  simp [results, hf, hs', hs2', asAddr, hl, hl2]
theorem bodyPostM_ib {fn : Func} {R : Ending → World → Prop} {t u : Tmp} (hf : fn.results = #[.cell t 3, .cell u 4]) {tmps : Array Value} {D g h : Nat} {W : World} {x y : Value} {e1 e2 : TypeId} {f1 f2 : Nat × Nat}
    (hD : W.heap[D]? = some (.deferred (some []))) (hs : tmps.getD t undef = .pointer (some ⟨g, 0, none⟩)) (hs2 : tmps.getD u undef = .pointer (some ⟨h, 0, none⟩)) (hg : (W.putObj D (.deferred none)).heap[g]? = some (.cells #[x] e1 f1)) (hh : (W.putObj D (.deferred none)).heap[h]? = some (.cells #[y] e2 f2))
    (hR : R (.returned (.tuple #[x, y])) (W.putObj D (.deferred none))) :
    bodyPostM Fence.wide 0 Tryz.prog fn R .ret { tmps := tmps, defers := [{ target := .collected D, args := #[] }] } W := by
  refine ⟨by simp, .inl ⟨_, _, rfl, run_takeDeferred hD, ?_⟩⟩
  exact ⟨_, res_ib hf hs hs2 hg hh, hR⟩
/-- who holds a section -/
def holderM (hs : List HeldM) (s : Int) : Option HeldM := hs.find? fun h => hasB h s
set_option maxHeartbeats 2000000 in
set_option maxRecDepth 100000 in
theorem Holder_c (K : List Value) (vh : Value) (css : List (List Value)) (hs : List HeldM) (nx : Int) (ms : List (Int × Int × Bool)) (s : Int) (w : World) (hK : KerAt w K vh css hs nx ms) (hlen : hs.length ≤ 5864062014700)
    (hsm : ∀ h ∈ hs, h.needs.length ≤ 5864062014700 ∧ h.steps.length ≤ 5864062014700 ∧ h.over.length ≤ 5864062014700) :
    Calls Tryz.prog 38 #[.agg K.toArray, .int .i64 s] w fun e w' => Below w.heap.size w w' ∧ ∃ (z : Int) (b : Bool), e = .returned (.tuple #[.int .i64 z, .bool b]) ∧ b = (holderM hs s).isSome := by
  obtain ⟨x, hx⟩ := firstAt_ex hs (fun h => hasB h s)
  have hfind : holderM hs s = x.bind fun k => hs[k]? := firstAt_find hx
  have szK : (Tryz.prog.info? 41).map (·.size) = some K.length := by rw [hK.len]; kernel_rfl
  obtain ⟨W0, hW0⟩ : ∃ W0, ((w.alloc (.cells K.toArray 41)).alloc (.cells #[.int .i64 0] 3)).alloc (.cells #[.bool false] 4) = W0 := ⟨_, rfl⟩
  have B0 : Below w.heap.size w W0 := by rw [← hW0]; exact below_step (below_step (below_new _ _) (below_new _ _)) (below_new _ _)
  have V0 : W0.heap[w.heap.size]? = some (.cells K.toArray 41 (0, 0)) := by rw [← hW0]; exact old_at (old_at (new_at rfl _) _) _
  have V1 : W0.heap[w.heap.size + 1]? = some (.cells #[.int .i64 0] 3 (0, 0)) := by rw [← hW0]; exact old_at (new_at (by simp) _) _
  have V2 : W0.heap[w.heap.size + 1 + 1]? = some (.cells #[.bool false] 4 (0, 0)) := by rw [← hW0]; exact new_at (by simp) _
  have RK := range_of V0
  have HK := Lib.hid hK
  have HX := Lib.hid hx
  have HFI := Lib.hid hfind
  have HSM := Lib.hid hsm
  have HW0 := Lib.hid hW0
  clear hW0 hK hx hfind hsm
  refine (callsIn_wide (n := 0)).1 (callsIn_of_wp_marks Tryz.func38 rfl trivial ?_ rfl)
  refine wpIn_wide.2 ?_
  simp only [Tryz.ntmps38, List.size_toArray, List.length_cons, List.length_nil, Nat.reduceAdd, Nat.reduceSub, Array.replicate_succ, Array.replicate_zero, List.push_toArray, List.append_toArray, List.nil_append, List.cons_append]
  go_wp2_with (first
    | (rw [HW0.out]; refine wpList_load_g (by rfl) 41 (.tmp 2) (by rfl) w.heap.size 0 (by rfl) K _ RK Tryz.underlying41 rfl szK ?_)
    | fail)
  refine (holdersF_c K s _).mono ?_
  rintro e W1 ⟨rfl, hW1⟩
  have b1 : Below W0.heap.size W0 W1 := by rw [← hW1]; exact below_step (below_new _ _) (below_new _ _)
  have B1 := below_step B0 b1
  have PP : HPre w W1 W0.heap.size (W0.heap.size + 1) K s := ⟨B1, by rw [← hW1]; exact old_at (new_at rfl _) _, by rw [← hW1]; exact new_at (by simp) _⟩
  have X1 := var_later V1 b1
  have X2 := var_later V2 b1
  have PH := Lib.hid PP
  clear hW1 b1 RK V0 V1 V2 B0 PP HW0
  generalize W0.heap.size = g0 at *
  have HX1 := Lib.hid X1
  have HX2 := Lib.hid X2
  have hz1 := (Array.getElem?_eq_some_iff.1 X2).1
  clear X1 X2
  go_wp2_with fail
  refine wp_first (x? := x.map fun k => #[.agg (css.getD k []).toArray]) (gf := 102) (lb := #[.pointer (some ⟨g0, 0, none⟩), .pointer (some ⟨g0 + 1, 0, none⟩)]) rfl (enters Tryz.func102 (by kernel_rfl) rfl)
    (holders1 w K vh css hs nx ms g0 (g0 + 1) s x HX.out HK.out hlen HSM.out) ?hps
    (fun W => Below w.heap.size w W ∧ ∃ z : Int, W.heap[w.heap.size + 1]? = some (.cells #[.int .i64 z] 3 (0, 0)) ∧ W.heap[w.heap.size + 1 + 1]? = some (.cells #[.bool true] 4 (0, 0)))
    (fun z a W => ∃ (gp k : Nat), x = some k ∧ a = { tmps := #[.agg K.toArray, .int .i64 s, .pointer (some ⟨w.heap.size, 0, none⟩), undef, .pointer (some ⟨w.heap.size + 1, 0, none⟩), .pointer (some ⟨w.heap.size + 1 + 1, 0, none⟩), .pointer (some ⟨gp, 0, none⟩), .agg K.toArray, .int .i64 s, .func (.func 102) #[] #[.pointer (some ⟨g0, 0, none⟩), .pointer (some ⟨g0 + 1, 0, none⟩)], .agg (css.getD k []).toArray, undef, undef], defers := [] } ∧ W.heap[gp]? = some (.cells (css.getD k []).toArray 75 (0, 0)))
    ?hpre ?hIx ?hR ?assign ?body ?none ?some
  case hps => intro z hz; obtain ⟨p, _, rfl⟩ := Option.map_eq_some_iff.1 hz; rfl
  case hpre => exact fun W hW => PH.out.later hW
  case hIx =>
    rintro W W' ⟨h1, z, h2, h3⟩ hb hsz
    exact ⟨h1.trans (hb.mono (by have := B1.size; omega)), z, below_at hb h2 (by omega), below_at hb h3 hz1⟩
  case hR =>
    rintro z a W l o o' hl ⟨gp, k, h1, h2, h3⟩
    refine ⟨gp, k, h1, h2, (World.putObj_heap_other ?_).trans h3⟩
    rintro rfl
    rw [hl] at h3; cases h3
  case assign =>
    intro l' z W K0 hz hbW hK0
    obtain ⟨k, hk, rfl⟩ := Option.map_eq_some_iff.1 hz
    obtain ⟨q, hq⟩ : ∃ q, hs[k]? = some q := by
      rcases HX.out with ⟨h, _⟩ | ⟨k', q, h, h1, _⟩
      · rw [h] at hk; cases hk
      · rw [h] at hk; cases hk; exact ⟨q, h1⟩
    obtain ⟨cs, hcs⟩ : ∃ s, css[k]? = some s := ⟨_, List.getElem?_eq_getElem (by rw [HK.out.hs.len]; exact (List.getElem?_eq_some_iff.1 hq).1)⟩
    have hgd : css.getD k [] = cs := by simp [List.getD, hcs]
    have hHq := HK.out.hs.at_ k cs q hcs hq
    have szS := held_size hHq.len
    have szm : (Tryz.prog.info? 75).map (·.size) = some cs.toArray.size := by simpa using szS
    have oneS : cs.toArray.all (·.oneCell') = true := all_one hHq.one
    obtain ⟨Ws, hWs, k3, k4, k2⟩ := newv (V := W) cs zHeld 75 (by rw [hHq.len]; rfl)
    have HWS := Lib.hid hWs
    have HK0 := Lib.hid hK0
    have HGD := Lib.hid hgd
    have HXK := Lib.hid hk
    clear hWs hK0 hgd hcs hq hHq hk hz
    rw [HGD.out]
    gi_wp2_with (first
      | (refine wpListIn_store_g rfl 75 (.tmp 6) (.tmp 10) (by rfl) W.heap.size 0 cs.toArray (by rfl) (by rfl) k2 szm oneS ?_; rw [HWS.out]))
    exact HK0.out _ _ k4 ⟨_, k, HXK.out, by rw [HGD.out], by rw [HGD.out]; exact k3⟩
  case body =>
    rintro l' z W a' hz hbW ⟨gp, k, hk, rfl, hgp⟩
    obtain ⟨q, hq⟩ : ∃ q, hs[k]? = some q := by
      rcases HX.out with ⟨h, _⟩ | ⟨k', q, h, h1, _⟩
      · rw [h] at hk; cases hk
      · rw [h] at hk; cases hk; exact ⟨q, h1⟩
    obtain ⟨cs, hcs⟩ : ∃ s, css[k]? = some s := ⟨_, List.getElem?_eq_getElem (by rw [HK.out.hs.len]; exact (List.getElem?_eq_some_iff.1 hq).1)⟩
    have hgd : css.getD k [] = cs := by simp [List.getD, hcs]
    have hHq := HK.out.hs.at_ k cs q hcs hq
    rw [hgd] at hgp
    rw [hgd]
    have x0 := cell_list hgp hHq.id
    have X1 := below_at hbW HX1.out (by omega)
    have X2 := below_at hbW HX2.out hz1
    have y1 := cell_at X1 0
    have y2 := cell_at X2 0
    have f1 := free_at X1 0
    have f2 := free_at X2 0
    obtain ⟨zi, hzi⟩ : ∃ z, q.id = z := ⟨_, rfl⟩
    rw [hzi] at x0
    have B2 := B1.trans (hbW.mono B1.size)
    have G1 := Lib.hid (set_far (set_at X1 0 (.int .i64 zi)) (p := ⟨w.heap.size + 1 + 1, 0, none⟩) (by simp) (.bool true))
    have G2 := Lib.hid (set_at (set_far X2 (p := ⟨w.heap.size + 1, 0, none⟩) (by simp) (.int .i64 zi)) 0 (.bool true))
    have B3 := Lib.hid (below_set (below_set B2 (show w.heap.size ≤ w.heap.size + 1 by omega) 0 (.int .i64 zi)) (show w.heap.size ≤ w.heap.size + 1 + 1 by omega) 0 (.bool true))
    have K3 : Hid (Keep (fun k => W1.heap.size ≤ k) W ((W.setCell ⟨w.heap.size + 1, 0, none⟩ (.int .i64 zi)).setCell ⟨w.heap.size + 1 + 1, 0, none⟩ (.bool true))) :=
      Lib.hid (((Keep.refl _ W).setCell (p := ⟨w.heap.size + 1, 0, none⟩) (fun _ h => by simp only at h; omega) _).setCell (p := ⟨w.heap.size + 1 + 1, 0, none⟩) (fun _ h => by simp only at h; omega) _)
    clear hz hk hq hcs hgd hHq X1 X2 hzi B2
    gi_wp2
    exact ⟨⟨B3.out, ⟨zi, G1.out⟩, G2.out⟩, K3.out⟩
  case none =>
    rintro D W hn hb hD1 hD2
    have X1 := below_at hb HX1.out (by omega)
    have X2 := below_at hb HX2.out hz1
    have y1 := cell_at X1 0
    have y2 := cell_at X2 0
    have f1 := free_at X1 0
    have f2 := free_at X2 0
    have B2 := B1.trans (hb.mono B1.size)
    have hxn : holderM hs s = none := by
      have : x = none := by cases x with | none => rfl | some k => cases hn
      rw [HFI.out, this]; rfl
    have HXN := Lib.hid hxn
    have G1 := Lib.hid (set_far (set_at X1 0 (.int .i64 0)) (p := ⟨w.heap.size + 1 + 1, 0, none⟩) (by simp) (.bool false))
    have G2 := Lib.hid (set_at (set_far X2 (p := ⟨w.heap.size + 1, 0, none⟩) (by simp) (.int .i64 0)) 0 (.bool false))
    have B3 := Lib.hid (below_set (below_set B2 (show w.heap.size ≤ w.heap.size + 1 by omega) 0 (.int .i64 0)) (show w.heap.size ≤ w.heap.size + 1 + 1 by omega) 0 (.bool false))
    have D2 := Lib.hid (set_far (set_far hD2 (p := ⟨w.heap.size + 1, 0, none⟩) (by simp only; omega) (.int .i64 0)) (p := ⟨w.heap.size + 1 + 1, 0, none⟩) (by simp only; omega) (.bool false))
    clear X1 X2 B2 hxn hn
    go_wp2
    exact bodyPostM_ib (t := 4) (u := 5) rfl D2.out rfl rfl ((World.putObj_heap_other (by omega)).trans G1.out) ((World.putObj_heap_other (by omega)).trans G2.out) ⟨below_putObj B3.out (by have := B1.size; omega) _, 0, false, rfl, by rw [HXN.out]; rfl⟩
  case some =>
    rintro D W hn ⟨hb, z, h2, h3⟩ hD1 hD2
    have hxs : (holderM hs s).isSome = true := by
      rw [HFI.out]
      rcases HX.out with ⟨h, _⟩ | ⟨k', q, h, h1, _⟩
      · rw [h] at hn; cases hn
      · rw [h]; show (hs[k']?).isSome = true; rw [h1]; rfl
    have HXS := Lib.hid hxs
    clear hn hxs
    go_wp2
    exact bodyPostM_ib (t := 4) (u := 5) rfl hD2 rfl rfl ((World.putObj_heap_other (by omega)).trans h2) ((World.putObj_heap_other (by omega)).trans h3) ⟨below_putObj hb (by have := B1.size; omega) _, z, true, rfl, HXS.out.symm⟩
end Go.Proofs.YtppcdmbpbbjecaaGreat
