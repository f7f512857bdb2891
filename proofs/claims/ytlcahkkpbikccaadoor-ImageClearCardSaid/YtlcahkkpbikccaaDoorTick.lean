/- Contracts of the package tick: each function returns its number and turns nothing that was there; where the table of tops lies as its text lays it. -/
import Derived.Test.YtlcahkkpbikccaaDoorRows
import Derived.Test.YtlcahkkpbikccaaDoorRf
import Derived.WalkKit
import Derived.BigFrameIn
import Derived.OpenShut
import Derived.StillTailTactics
import Derived.Outline
namespace Go.Proofs.YtlcahkkpbikccaaDoor
open Go.RowKit Rf
attribute [local go_sem] Oper.semAt_some
def UpPre (what n by_ top : Int) (b0 b1 b2 : Nat) (W : World) : Prop :=
  W.cell? ⟨b0,0,none⟩ = some (.int .i64 by_) ∧ W.frozen? ⟨b0,0,none⟩ = false ∧ W.cell? ⟨b1,0,none⟩ = some (.int .i64 what) ∧ W.cell? ⟨b2,0,none⟩ = some (.int .i64 n) ∧ W.cell? ⟨0, what.toNat, none⟩ = some (.int .i64 top)
def upBy (n by_ top : Int) : Int := min (max by_ 0) (top - n)
def upList (n by_ top : Int) : List (Array Value) := if 0 < upBy n by_ top then [#[.int .i64 (n + upBy n by_ top)]] else []
attribute [local go_sem ↓] run_max2 run_min2
set_option maxHeartbeats 400000 in
theorem up1 (top : Int) (what n by_ : Int) (b0 b1 b2 : Nat) (hw : what = 0 ∨ what = 1) (hn : 0 ≤ n) (hn1 : n ≤ top) (ht : top ≤ 1073741824)
   (h02 : b0 ≠ b2) :
   Iter Tryd.prog 34 #[.pointer (some ⟨b0, 0, none⟩), .pointer (some ⟨b1, 0, none⟩), .pointer (some ⟨b2, 0, none⟩)] (fun k => k = b0) (fun _ => False) (upList n by_ top) (UpPre what n by_ top b0 b1 b2) := by
  intro l J O0 W0 hP hO hJ hY h0
  obtain ⟨c0, c1, c2, c3, c4⟩ := hP
  refine callsIn_of_wp Tryd.func34 rfl trivial ?_ rfl
  simp only [Tryd.ntmps34, List.size_toArray, List.length_cons, List.length_nil, Nat.reduceAdd, Nat.reduceSub, Array.replicate_succ, Array.replicate_zero, List.push_toArray, List.append_toArray, List.nil_append, List.cons_append]
  have hkeep : ∀ u : Value, J 0 O0 (W0.setCell ⟨b0, 0, none⟩ u).drew := fun u => hJ _ _ _ _ h0
    (((Keep.refl _ W0).setCell (fun _ h => by rcases h with h | h; exact (hO _ h).2.1 rfl; exact h.2 rfl) u).drew)
  have hx : upList n by_ top = if 0 < upBy n by_ top then [#[.int .i64 (n + upBy n by_ top)]] else [] := rfl
  have hu : min (max by_ 0) (top - n) = upBy n by_ top := rfl
  have hu1 : upBy n by_ top ≤ top - n := by unfold upBy; omega
  have hwr : IntKind.i64.wrap (top - n) = top - n := IntWalk.i64_in _ (by omega)
  have hwr2 : IntKind.i64.wrap (n + upBy n by_ top) = n + upBy n by_ top := IntWalk.i64_in _ (by unfold upBy at *; omega)
  generalize upBy n by_ top = m at *
  rcases hw with rfl | rfl
  all_goals
    simp only [Int.toNat_zero, Int.toNat_one] at c4
    by_cases hb : 0 < m
    · rw [if_pos hb] at hx
      obtain ⟨fn, tmps, assign, body, hy, hR⟩ := hY 0 #[.int .i64 (n + m)] O0 _ (by rw [hx]; rfl) (hkeep (.int .i64 m)) (by simp [World.setCell])
      rw [hx]; clear hx hkeep hJ
      gi_wp2
      refine wpIn_wide.2 ?_
      go_still_tail 8, (by kernel_rfl)
      change wpList _ _ _ _ _ W0.drew
      go_wp2
      gi_wp2
      refine ⟨rfl, hR.mono ?_⟩
      rintro e W' ⟨rfl, O', hJ', _, _⟩
      gi_wp2
      go_end0
      exact ⟨⟨_, rfl⟩, O', hJ'⟩
    · rw [if_neg hb] at hx
      have hk := hkeep (.int .i64 m)
      rw [hx]; clear hx hkeep hJ
      gi_wp2
      refine wpIn_wide.2 ?_
      go_still_tail 8, (by kernel_rfl)
      change wpList _ _ _ _ _ W0.drew
      go_wp2
      gi_wp2
      go_end0
      exact ⟨⟨_, rfl⟩, O0, hk⟩
structure Tops (w : World) : Prop where
  c0 : w.cell? ⟨0, 0, none⟩ = some (.int .i64 1073741824)
  c1 : w.cell? ⟨0, 1, none⟩ = some (.int .i64 65535)
  sz : 0 < w.heap.size
theorem Tops.below {w w' : World} (h : Tops w) (hb : Below w.heap.size w w') : Tops w' :=
  ⟨(hb.cell (p := ⟨0,0,none⟩) h.sz).trans h.c0, (hb.cell (p := ⟨0,1,none⟩) h.sz).trans h.c1, Nat.lt_of_lt_of_le h.sz hb.size⟩
def topOf (what : Int) : Int := if what = 0 then 1073741824 else 65535
def clamp (n top : Int) : Int := max 0 (min n top)
set_option maxHeartbeats 400000 in
theorem within_c (what n : Int) (w : World) (hT : Tops w) (hw : what = 0 ∨ what = 1) :
    Calls Tryd.prog 32 #[.int .i64 what, .int .i64 n] w fun e w' => e = .returned (.int .i64 (clamp n (topOf what))) ∧ w = w' := by
  have h0 := hT.c0
  have h1 := hT.c1
  rcases hw with rfl | rfl
  all_goals
    go_enter Tryd.func32, Tryd.ntmps32
    go_wp2
    go_ret
    exact ⟨rfl, rfl⟩
theorem up_c (what n by_ : Int) (w : World) : Calls Tryd.prog 33 #[.int .i64 what, .int .i64 n, .int .i64 by_] w fun e w' =>
    e = .returned (.func (.func 34) #[] #[.pointer (some ⟨w.heap.size + 2, 0, none⟩), .pointer (some ⟨w.heap.size, 0, none⟩), .pointer (some ⟨w.heap.size + 1, 0, none⟩)]) ∧
    ((w.alloc (.cells #[.int .i64 what] 3)).alloc (.cells #[.int .i64 n] 3)).alloc (.cells #[.int .i64 by_] 3) = w' := by
  go_enter Tryd.func33, Tryd.ntmps33
  go_wp2
  go_ret
  exact ⟨rfl, rfl⟩
theorem up_res (m by_ top : Int) (h : m ≤ top) : (if (upList m by_ top).length = 0 then m else m + upBy m by_ top) = min (m + max by_ 0) top := by
  unfold upList
  by_cases h0 : 0 < upBy m by_ top
  · rw [if_pos h0]; simp; unfold upBy; omega
  · rw [if_neg h0]; simp; unfold upBy at h0; omega
def onV (n by_ top : Int) : Int := min (clamp n top + max by_ 0) top
set_option maxHeartbeats 400000 in
theorem on_c (what n by_ : Int) (w : World) (hT : Tops w) (hw : what = 0 ∨ what = 1) :
    Calls Tryd.prog 27 #[.int .i64 what, .int .i64 n, .int .i64 by_] w fun e w' => e = .returned (.int .i64 (onV n by_ (topOf what))) ∧ Below w.heap.size w w' := by
  refine (callsIn_wide (n := 0)).1 (callsIn_of_wp_marks Tryd.func27 rfl trivial ?_ rfl)
  refine wpIn_wide.2 ?_
  simp only [Tryd.ntmps27, List.size_toArray, List.length_cons, List.length_nil, Nat.reduceAdd, Nat.reduceSub, Array.replicate_succ, Array.replicate_zero, List.push_toArray, List.append_toArray, List.nil_append, List.cons_append]
  go_wp2_with fail
  refine (within_c what n _ ?_ hw).mono ?_
  · exact hT.below ((Below.refl _ w).alloc (Nat.le_refl _) _)
  rintro e w' ⟨rfl, rfl⟩
  have hz := hT.sz
  have ht : topOf what = 1073741824 ∨ topOf what = 65535 := by unfold topOf; split <;> simp
  have hcell : w.cell? ⟨0, what.toNat, none⟩ = some (.int .i64 (topOf what)) := by
    rcases hw with rfl | rfl
    · exact hT.c0
    · exact hT.c1
  obtain ⟨top, htop⟩ : ∃ top, topOf what = top := ⟨_, rfl⟩
  rw [htop] at hcell ht ⊢
  have hm0 : 0 ≤ clamp n top := by unfold clamp; omega
  have hm1 : clamp n top ≤ top := by unfold clamp; omega
  have hon : onV n by_ (topOf what) = min (clamp n top + max by_ 0) top := by rw [htop]; rfl
  clear htop
  generalize clamp n top = m at *
  go_wp2_with fail
  refine (up_c _ _ _ _).mono ?_
  rintro e w' ⟨rfl, rfl⟩
  go_wp2_with fail
  obtain ⟨W0, hW0⟩ : ∃ W0, W0 = (((w.alloc (.cells #[.int .i64 m] 3)).alloc (.cells #[.int .i64 what] 3)).alloc (.cells #[.int .i64 m] 3)).alloc (.cells #[.int .i64 by_] 3) := ⟨_, rfl⟩
  rw [← hW0]
  have hs : W0.heap.size = w.heap.size + 4 := by rw [hW0]; simp
  have hb : Below w.heap.size w W0 := by
    rw [hW0]; exact ((((Below.refl _ w).alloc (Nat.le_refl _) _).alloc (by simp) _).alloc (by simp; omega) _).alloc (by simp; omega) _
  have k0 : W0.heap[w.heap.size]? = some (.cells #[.int .i64 m] 3) := by rw [hW0]; exact old_at (old_at (old_at (new_at rfl _) _) _) _
  have k1 : W0.heap[w.heap.size + 1]? = some (.cells #[.int .i64 what] 3) := by rw [hW0]; exact old_at (old_at (new_at (by simp) _) _) _
  have k2 : W0.heap[w.heap.size + 2]? = some (.cells #[.int .i64 m] 3) := by rw [hW0]; exact old_at (new_at (by simp) _) _
  have k3 : W0.heap[w.heap.size + 3]? = some (.cells #[.int .i64 by_] 3) := by rw [hW0]; exact new_at (by simp) _
  clear hW0
  refine wp_iter (xs := upList m by_ top) (Fp := fun k => k = w.heap.size + 3) (gf := 34) (lb := #[.pointer (some ⟨w.heap.size + 3, 0, none⟩), .pointer (some ⟨w.heap.size + 1, 0, none⟩), .pointer (some ⟨w.heap.size + 2, 0, none⟩)]) rfl (enters Tryd.func34 (by kernel_rfl) rfl)
    (up1 top what m by_ _ _ _ hw hm0 hm1 (by omega) (by omega)) ?hps
    (fun i O W => O = (fun k => k = w.heap.size) ∧ W.heap[w.heap.size]? = some (.cells #[.int .i64 (if i = 0 then m else m + upBy m by_ top)] 3) ∧ Below w.heap.size w W) (fun k => k = w.heap.size) ?hpre ?hO ?hFp ?hI ?h0
    (fun x => { tmps := #[Value.int IntKind.i64 what, Value.int IntKind.i64 n, Value.int IntKind.i64 by_, undef,
          Value.pointer (some { block := w.heap.size, off := 0 }), undef, Value.int IntKind.i64 0, x.getD 0 undef,
          Value.int IntKind.i64 what, Value.int IntKind.i64 n, Value.int IntKind.i64 m,
          Value.int IntKind.i64 what, Value.int IntKind.i64 m, Value.int IntKind.i64 by_,
          Value.func (Fn.func 34) #[]
            #[Value.pointer (some { block := w.heap.size + 3, off := 0 }),
              Value.pointer (some { block := w.heap.size + 1, off := 0 }),
              Value.pointer (some { block := w.heap.size + 2, off := 0 })],
          x.getD 0 undef, undef, undef], defers := [] }) ?assign ?body ?done
  case hps => intro x hx; unfold upList at hx; split at hx <;> simp at hx; subst hx; rfl
  case hpre =>
    intro W hW
    have e0 : W.heap[0]? = w.heap[0]? := (hW.block _ (by omega)).trans (hb.block _ hz)
    refine ⟨?_, ?_, ?_, ?_, ?_⟩
    · rw [cell_at (below_at hW k3 (by omega))]; rfl
    · exact free_at (below_at hW k3 (by omega)) _
    · rw [cell_at (below_at hW k1 (by omega))]; rfl
    · rw [cell_at (below_at hW k2 (by omega))]; rfl
    · rw [World.cell?_of_block e0]; exact hcell
  case hO => rintro k rfl; exact ⟨by omega, by omega, fun h => h⟩
  case hFp => rintro k rfl; omega
  case hI =>
    rintro i O W W' ⟨rfl, h1, h2⟩ hk
    exact ⟨rfl, hk.at_ h1 (.inl rfl), below_keep h2 hk (Nat.le_refl _) (fun k h => .inr ⟨by omega, by omega⟩)⟩
  case h0 => exact ⟨rfl, k0, hb⟩
  case assign =>
    intro l x W K hx hK
    unfold upList at hx
    split at hx <;> simp at hx
    subst hx
    gi_wp2
    exact hK
  case body =>
    rintro l i x O W hx ⟨rfl, h1, h2⟩ hsz
    have hxu : i = 0 ∧ x = #[.int .i64 (m + upBy m by_ top)] := by
      unfold upList at hx
      split at hx
      · cases i <;> simp at hx; exact ⟨rfl, hx.symm⟩
      · simp at hx
    obtain ⟨rfl, rfl⟩ := hxu
    have c := cell_at h1 0
    have f := free_at h1 0
    simp at c
    gi_wp2
    refine ⟨fun k => k = w.heap.size, ⟨rfl, ?_, ?_⟩, fun k hk => .inl hk, (Keep.refl _ W).setCell (fun _ h => h rfl) _⟩
    · rw [set_at h1]; rfl
    · exact h2.setCell (Nat.le_refl _) _
  case done =>
    rintro D O W ⟨rfl, h1, h2⟩ hD hK
    have e : (if (upList m by_ top).length = 0 then m else m + upBy m by_ top) = onV n by_ (topOf what) := by
      rw [hon]
      exact up_res m by_ top hm1
    rw [e] at h1
    clear e hon
    have c := cell_at h1 0
    simp at c
    go_wp2
    exact bodyPostM_mark rfl (.inr rfl) hK ⟨rfl, below_putObj h2 (by omega) _⟩

theorem Count_c (n : Int) (w : World) (hT : Tops w) : Calls Tryd.prog 29 #[.int .i64 n] w fun e w' => e = .returned (.int .i64 (clamp n 65535)) ∧ w = w' := by
  go_enter Tryd.func29, Tryd.ntmps29
  go_wp2_with fail
  refine (within_c 1 n _ hT (.inr rfl)).mono ?_
  rintro e w' ⟨rfl, rfl⟩
  go_wp2
  go_ret
  exact ⟨rfl, rfl⟩
theorem More_c (n b : Int) (w : World) (hT : Tops w) : Calls Tryd.prog 20 #[.int .i64 n, .int .i64 b] w fun e w' => e = .returned (.int .i64 (onV n b 65535)) ∧ Below w.heap.size w w' := by
  go_enter Tryd.func20, Tryd.ntmps20
  go_wp2_with fail
  refine (on_c 1 n b _ hT (.inr rfl)).mono ?_
  rintro e w' ⟨rfl, hb⟩
  go_wp2
  go_ret
  exact ⟨rfl, hb⟩
def downV (n : Int) : Int := max n 1 - 1
theorem Late_c (n t : Int) (w : World) : Calls Tryd.prog 23 #[.int .i64 n, .int .i64 t] w fun e w' => e = .returned (.bool (decide (t < n))) ∧ w = w' := by
  go_enter Tryd.func23, Tryd.ntmps23
  go_wp2
  go_ret
  exact ⟨rfl, rfl⟩
def rowV (told : Bool) (n : Int) : Int := if told then onV n 1 65535 else 0
theorem Row_c (told : Bool) (n : Int) (w : World) (hT : Tops w) : Calls Tryd.prog 26 #[.bool told, .int .i64 n] w fun e w' => e = .returned (.int .i64 (rowV told n)) ∧ Below w.heap.size w w' := by
  cases told
  · go_enter Tryd.func26, Tryd.ntmps26
    go_wp2
    go_ret
    exact ⟨rfl, Below.refl _ _⟩
  · go_enter Tryd.func26, Tryd.ntmps26
    go_wp2_with fail
    refine (More_c n 1 _ hT).mono ?_
    rintro e w' ⟨rfl, hb⟩
    go_wp2
    go_ret
    exact ⟨rfl, hb⟩
