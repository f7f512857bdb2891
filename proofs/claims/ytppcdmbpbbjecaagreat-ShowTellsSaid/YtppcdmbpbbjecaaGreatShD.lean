/- Shows: the contract of Size. Nothing that was there is turned. -/
import Derived.Test.YtppcdmbpbbjecaaGreatShC
namespace Go.Proofs.YtppcdmbpbbjecaaGreat
open Go.RowKit Rf Mem Bv AM SM
attribute [local go_sem ↓] run_max2 run_min2
attribute [local go_sem] Oper.semAt_some
def sumW (fs : List Fld) : Nat := (fs.map (·.2)).sum
theorem sumW_take {fs : List Fld} {q : Nat} {f : Fld} (h : fs[q]? = some f) : sumW (fs.take (q + 1)) = sumW (fs.take q) + f.2 := by
  rw [List.take_add_one, h]; simp [sumW]
abbrev s0 : ShowM := ⟨0#32, 0#32, 0#32, 0#32, 0#32, 0#32, 0#32, 0#32, 0#32, 0, 0, 0⟩
theorem flds_ok (s : ShowM) (kinds : List Int) (nsig : Nat) (hc : 0 ≤ s.code) : ∀ f ∈ flds s kinds nsig, f.1 < 2 ^ f.2 ∧ f.2 ≤ 8 := by
  have b1 : ∀ x i, bitN x i < 2 ^ 1 := fun x i => by unfold bitN; cases x.getLsbD i <;> decide
  have l2 : ∀ a b i, lampN a b i < 2 ^ 2 := fun a b i => by unfold lampN; split <;> (try split) <;> decide
  intro f hf
  unfold flds secsF sigsF at hf
  simp only [List.mem_append, List.mem_flatMap, List.mem_range] at hf
  rcases hf with ⟨i, _, hf⟩ | ⟨i, _, hf⟩ | hf
  · unfold secF at hf
    simp only [List.mem_append, List.mem_cons, List.not_mem_nil, or_false] at hf
    rcases hf with (rfl | rfl) | hf
    · exact ⟨b1 _ _, by simp⟩
    · exact ⟨b1 _ _, by simp⟩
    · split at hf
      · simp only [List.mem_cons, List.not_mem_nil, or_false] at hf
        rcases hf with rfl | rfl
        · exact ⟨l2 _ _ _, by simp⟩
        · exact ⟨b1 _ _, by simp⟩
      · cases hf
  · simp only [sigF, List.mem_cons, List.not_mem_nil, or_false] at hf
    rcases hf with rfl | rfl | rfl
    · exact ⟨b1 _ _, by simp⟩
    · exact ⟨l2 _ _ _, by simp⟩
    · exact ⟨b1 _ _, by simp⟩
  · simp only [endF, List.mem_cons, List.not_mem_nil, or_false] at hf
    rcases hf with rfl | rfl | rfl
    · exact ⟨by show (min s.code 7).toNat < 8; omega, by simp⟩
    · exact ⟨by show (min (max s.waiting 0) 7).toNat < 8; omega, by simp⟩
    · exact ⟨by show (max s.errors 0 % 256).toNat < 256; omega, by simp⟩
theorem flds_len2 (s : ShowM) (kinds : List Int) (nsig : Nat) : (flds s kinds nsig).length ≤ 135 := by
  have h1 : ∀ k, (secsF s kinds k).length ≤ 4 * k := fun k => by
    induction k with
    | zero => simp [secsF]
    | succ k ih =>
      rw [secsF_succ, List.length_append]
      have : (secF s kinds k).length ≤ 4 := by unfold secF; split <;> simp
      omega
  have h2 : ∀ k, (sigsF s k).length ≤ 3 * k := fun k => by
    induction k with
    | zero => simp [sigsF]
    | succ k ih =>
      rw [sigsF_succ, List.length_append]
      have : (sigF s k).length = 3 := rfl
      omega
  rw [flds_len]
  have := h1 (min kinds.length 24); have := h2 (min nsig 12)
  omega
theorem sumW_le (fs : List Fld) (h : ∀ f ∈ fs, f.2 ≤ 8) : sumW fs ≤ 8 * fs.length := by
  induction fs with
  | nil => simp [sumW]
  | cons f r ih =>
    have h1 := h f (by simp)
    have h2 := ih (fun g hg => h g (by simp [hg]))
    simp only [sumW, List.map_cons, List.sum_cons, List.length_cons] at h2 ⊢
    omega
/-- the widths hang on the layout alone -/
theorem widths (s t : ShowM) (kinds : List Int) (nsig : Nat) : (flds s kinds nsig).map (·.2) = (flds t kinds nsig).map (·.2) := by
  have h1 : ∀ i, (secF s kinds i).map (·.2) = (secF t kinds i).map (·.2) := fun i => by unfold secF; split <;> rfl
  have h2 : ∀ k, (secsF s kinds k).map (·.2) = (secsF t kinds k).map (·.2) := fun k => by
    unfold secsF; rw [List.map_flatMap, List.map_flatMap]; congr 1; funext i; exact h1 i
  have h3 : ∀ k, (sigsF s k).map (·.2) = (sigsF t k).map (·.2) := fun k => by
    unfold sigsF; rw [List.map_flatMap, List.map_flatMap]; rfl
  unfold flds
  rw [List.map_append, List.map_append, List.map_append, List.map_append, h2, h3]; rfl
theorem show0 : showL s0 = [.int .u32 0, .int .u32 0, .int .u32 0, .int .u32 0, .int .u32 0, .int .u32 0, .int .u32 0, .int .u32 0, .int .u32 0, .int .u8 0, .int .i64 0, .int .i64 0] := rfl
/-- what the loop of Size holds -/
structure ZI (w W : World) (O : Nat → Prop) (g : Nat) (z : Nat) : Prop where
  x : W.heap[g]? = some (.cells #[.int .i64 (z : Int)] 3 (0, 0))
  bel : Below w.heap.size w W
  o : ∀ k, O k ↔ k = g
abbrev zFld : Array Value := #[.int .i64 0, .int .i64 0]
set_option maxHeartbeats 4000000 in
set_option maxRecDepth 100000 in
theorem Size_c (L : List Value) (kinds : List Int) (ss : List (List Value)) (nsig : Nat) (clr st : Int) (A : Option Addr) (c : Nat) (A1 : Option Addr) (c1 : Nat) (r : Int) (w : World) (hr : r = (((sumW (flds s0 kinds nsig) + 7) / 8 : Nat) : Int)) (hL : LY w L kinds ss nsig clr st A c A1 c1) (hk2 : ∀ z ∈ kinds, 0 ≤ z ∧ z ≤ 255) :
    Calls Tryz.prog 14 #[.agg L.toArray] w fun e w' => e = .returned (.int .i64 r) ∧ Below w.heap.size w w' := by
  have szL := lay_size hL.f.len
  obtain ⟨W0, hW0⟩ : ∃ W0, (w.alloc (.cells L.toArray 29)).alloc (.cells #[.int .i64 0] 3) = W0 := ⟨_, rfl⟩
  have B0 : Below w.heap.size w W0 := by rw [← hW0]; exact below_step (below_new _ _) (below_new _ _)
  have V0 : W0.heap[w.heap.size]? = some (.cells L.toArray 29 (0, 0)) := by rw [← hW0]; exact old_at (new_at rfl _) _
  have V1 : W0.heap[w.heap.size + 1]? = some (.cells #[.int .i64 0] 3 (0, 0)) := by rw [← hW0]; exact new_at (by simp) _
  have RL := range_of V0
  have x1 := cell_at V1 0
  have f1 := free_at V1 0
  have HL := Lib.hid hL
  have HR := Lib.hid hr
  clear hL hr
  refine (callsIn_wide (n := 0)).1 (callsIn_of_wp_marks Tryz.func14 rfl trivial ?_ rfl)
  refine wpIn_wide.2 ?_
  simp only [Tryz.ntmps14, List.size_toArray, List.length_cons, List.length_nil, Nat.reduceAdd, Nat.reduceSub, Array.replicate_succ, Array.replicate_zero, List.push_toArray, List.append_toArray, List.nil_append, List.cons_append]
  have HW0 := Lib.hid hW0
  clear hW0 x1 f1
  go_wp2_with (first
    | (rw [HW0.out]; refine wpList_load_g (by rfl) 29 (.tmp 1) (by rfl) w.heap.size 0 (by rfl) L _ RL Tryz.underlying29 rfl szL ?_)
    | fail)
  refine (fields_c L (showL s0) _).mono ?_
  rintro e W1 ⟨rfl, hW1⟩
  have b1 : Below W0.heap.size W0 W1 := by rw [← hW1]; exact below_step (below_new _ _) (below_new _ _)
  have B1 := below_step B0 b1
  have s5 : W1.heap.size = W0.heap.size + 2 := by rw [← hW1]; simp
  have s4 : W0.heap.size = w.heap.size + 2 := by rw [← HW0.out]; simp
  have PP : FPre w W1 W0.heap.size (W0.heap.size + 1) L s0 := ⟨B1, by rw [← hW1]; exact old_at (new_at rfl _) _, by rw [← hW1]; exact new_at (by simp) _⟩
  have X1 := var_later V1 b1
  have PH := Lib.hid PP
  have HS4 := Lib.hid s4
  have HS5 := Lib.hid s5
  clear hW1 b1 RL V0 V1 B0 PP HW0 s4 s5
  generalize W0.heap.size = g0 at *
  obtain ⟨fs, hfs⟩ : ∃ fs, flds s0 kinds nsig = fs := ⟨_, rfl⟩
  have hok := flds_ok s0 kinds nsig (by decide)
  have hln := flds_len2 s0 kinds nsig
  have hit := fields1 w L kinds ss nsig clr st A c A1 c1 s0 g0 (g0 + 1) HL.out ⟨by decide, by decide⟩ hk2
  rw [hfs] at hok hln hit HR
  have HOK := Lib.hid hok
  have HIT := Lib.hid hit
  clear hfs hit hok hk2
  go_wp2_with fail
  refine wp_iterA2 (xs := fs.map fun f => #[fV f]) (Fp := fun _ => False) (Rd := FRd w.heap.size g0 (g0 + 1)) (gf := 88) (lb := #[.pointer (some ⟨g0, 0, none⟩), .pointer (some ⟨g0 + 1, 0, none⟩)]) rfl (enters Tryz.func88 (by kernel_rfl) rfl) HIT.out ?hps
    (fun q O W => ZI w W O (w.heap.size + 1) (sumW (fs.take q))) (fun k => k = w.heap.size + 1)
    (fun z a W => ∃ (gp : Nat) (f : Fld), z = #[fV f] ∧ a = { tmps := #[.agg L.toArray, .pointer (some ⟨w.heap.size, 0, none⟩), .int .i64 0, .pointer (some ⟨w.heap.size + 1, 0, none⟩), .pointer (some ⟨gp, 0, none⟩), .agg L.toArray, .agg #[.int .u32 0, .int .u32 0, .int .u32 0, .int .u32 0, .int .u32 0, .int .u32 0, .int .u32 0, .int .u32 0, .int .u32 0, .int .u8 0, .int .i64 0, .int .i64 0], .func (.func 88) #[] #[.pointer (some ⟨g0, 0, none⟩), .pointer (some ⟨g0 + 1, 0, none⟩)], fV f, undef, undef, undef, undef, undef, undef, undef], defers := [] } ∧ W.heap[gp]? = some (.cells #[.int .i64 (f.1 : Int), .int .i64 (f.2 : Int)] 124 (0, 0)))
    ?hIO ?hpre ?hO ?hFp ?hI ?h0 ?hR ?assign ?body ?done
  case hps => intro z hz; simp only [List.mem_map] at hz; obtain ⟨p, _, rfl⟩ := hz; rfl
  case hIO => rintro i O W ⟨h1, _, h3⟩ k hk; obtain rfl := (h3 k).1 hk; exact (Array.getElem?_eq_some_iff.1 h1).1
  case hpre => exact fun W hW => PH.out.keep (Keep.of_below (S := fun k => k < W1.heap.size) hW (fun _ h _ => h)) (fun q hq => PH.out.lt hq)
  case hO =>
    rintro q rfl
    have h4 := HS4.out
    have h5 := HS5.out
    exact ⟨by omega, id, fun h => by unfold FRd at h; omega⟩
  case hFp => rintro q ⟨⟩
  case hI =>
    rintro i O W W' ⟨h1, h2, h3⟩ hk
    have h4 := HS4.out
    have h5 := HS5.out
    exact ⟨hk.at_ h1 (.inl ((h3 _).2 rfl)), below_keep h2 hk (Nat.le_refl _) (fun q hq => .inr ⟨by omega, id⟩), h3⟩
  case h0 => exact ⟨X1, B1, fun _ => Iff.rfl⟩
  case hR =>
    rintro z a W l o o' hl ⟨gp, f, h1, h2, h3⟩
    refine ⟨gp, f, h1, h2, (World.putObj_heap_other ?_).trans h3⟩
    rintro rfl
    rw [hl] at h3; cases h3
  case assign =>
    intro l' z W K0 hz hK0
    simp only [List.mem_map] at hz
    obtain ⟨f, hf, rfl⟩ := hz
    have HK0 := Lib.hid hK0
    clear hK0
    unfold fV
    gi_wp2
    exact HK0.out _ _ (below_new _ _) ⟨_, f, rfl, rfl, new_at rfl _⟩
  case body =>
    rintro l' i z O W a' hz hI ⟨gp, f, rfl, rfl, hgp⟩ hsz'
    have hi : fs[i]? = some f := by
      rw [List.getElem?_map] at hz
      obtain ⟨f', h1, h2⟩ := Option.map_eq_some_iff.1 hz
      have h3 : fV f' = fV f := by
        have := congrArg (fun x : Array Value => x.getD 0 undef) h2
        simpa using this
      have h4 : (f'.1 : Int) = (f.1 : Int) ∧ (f'.2 : Int) = (f.2 : Int) := by
        unfold fV at h3
        simp at h3
        omega
      rw [h1]
      congr 1
      exact Prod.ext (by omega) (by omega)
    have HT := Lib.hid (sumW_take hi)
    have hf8 := (HOK.out f (List.mem_of_getElem? hi)).2
    have hzs : sumW (fs.take i) ≤ 1080 := Nat.le_trans (sumW_le _ (fun g hg => (HOK.out g (List.mem_of_mem_take hg)).2)) (by rw [List.length_take]; omega)
    obtain ⟨h1, h2, h3⟩ := hI
    have HI := Lib.hid (show Keep (fun k => ¬ O k) W W from Keep.refl _ _)
    generalize sumW (fs.take i) = zz at *
    obtain ⟨f1, f2⟩ := f
    simp only at hgp hf8
    have y0 := cell_at hgp 0
    have y1 := cell_at hgp 1
    have x0 := cell_at h1 0
    have x1 := free_at h1 0
    have hnw : IntKind.i64.wrap ((zz : Int) + (f2 : Int)) = ((zz + f2 : Nat) : Int) := by rw [IntWalk.i64_in _ (by omega)]; push_cast; rfl
    have h6 := set_at h1 0 (.int .i64 ((zz : Int) + (f2 : Int)))
    have h7 := below_set h2 (show w.heap.size ≤ w.heap.size + 1 by omega) 0 (.int .i64 ((zz : Int) + (f2 : Int)))
    have HK6 := Lib.hid ((HI.out).setCell (p := ⟨w.heap.size + 1, 0, none⟩) (fun _ h => h ((h3 _).2 rfl)) (.int .i64 ((zz : Int) + (f2 : Int))))
    have H67 := Lib.hid (And.intro h6 h7)
    clear hz hi hgp h1 h2 h6 h7 HI
    gi_wp2
    exact ⟨O, by dsimp only; rw [HT.out]; exact ⟨by push_cast; exact H67.out.1, H67.out.2, h3⟩, fun k hk => .inl hk, HK6.out⟩
  case done =>
    rintro D O W ⟨h1, h2, h3⟩ hD1 hD2
    have h4 := HS4.out
    have h5 := HS5.out
    rw [List.length_map, List.take_of_length_le (Nat.le_refl _)] at h1
    have hzs : sumW fs ≤ 1080 := Nat.le_trans (sumW_le _ (fun g hg => (HOK.out g hg).2)) (by omega)
    have hr := HR.out
    generalize sumW fs = zz at *
    have x0 := cell_at h1 0
    have hq : Int.tdiv ((zz : Int) + 7) 8 = r := by rw [Int.tdiv_eq_ediv_of_nonneg (by omega), hr]; omega
    have hwr := IntWalk.wrap64_in r (by omega)
    clear hr
    go_wp2
    refine bodyPostM_mark (t := 2) rfl (.inr rfl) hD2 ⟨by show Ending.returned (.int .i64 (wrap64 r)) = _; rw [hwr], below_putObj h2 (by omega) _⟩
end Go.Proofs.YtppcdmbpbbjecaaGreat
