/- Shows: the contract of Put. Nothing that was there is turned. -/
import Derived.Test.YtppcdmbpbbjecaaGreatShD
import Derived.Test.YtppcdmbpbbjecaaGreatSBits
namespace Go.Proofs.YtppcdmbpbbjecaaGreat
open Go.RowKit Rf Mem Bv AM SM Bits
attribute [local go_sem ↓] run_max2 run_min2
attribute [local go_sem] Oper.semAt_some
/-- numbers' bits -/
def fbits (fs : List Fld) : List Bool := fs.flatMap fun f => numBits f.1 f.2
theorem fbits_take {fs : List Fld} {q : Nat} {f : Fld} (h : fs[q]? = some f) : fbits (fs.take (q + 1)) = fbits (fs.take q) ++ numBits f.1 f.2 := by
  rw [List.take_add_one, h]; simp [fbits]
theorem fbits_len (fs : List Fld) : (fbits fs).length = sumW fs := by
  induction fs with
  | nil => rfl
  | cons f r ih => simp only [fbits, List.flatMap_cons, List.length_append, numBits_length, sumW, List.map_cons, List.sum_cons] at ih ⊢; omega
/-- what the loop of Put holds -/
structure PI (w W : World) (O : Nat → Prop) (l : List Bool) : Prop where
  acc : Bt.Acc w.heap.size (w.heap.size + 1 + 1) O W l
  bel : Below w.heap.size w W
set_option maxHeartbeats 4000000 in
set_option maxRecDepth 100000 in
theorem Put_c (L : List Value) (kinds : List Int) (ss : List (List Value)) (nsig : Nat) (clr st : Int) (A : Option Addr) (c : Nat) (A1 : Option Addr) (c1 : Nat) (s : ShowM) (w : World) (hL : LY w L kinds ss nsig clr st A c A1 c1) (hcd : 0 ≤ s.code ∧ s.code ≤ 255) (hk2 : ∀ z ∈ kinds, 0 ≤ z ∧ z ≤ 255) :
    Calls Tryz.prog 12 #[.agg L.toArray, .agg (showL s).toArray] w fun e w' => Below w.heap.size w w' ∧ ∃ (A' : Option Addr) (c' : Nat) (B : List (BitVec 8)), e = .returned (.slice A' B.length c') ∧ w'.ownsRow w.heap.size 5 1 (.slice A' B.length c') B.length (u8s B) ∧ Bits.Holds B (fbits (flds s kinds nsig)) := by
  have szL := lay_size hL.f.len
  have szS := show_size s
  obtain ⟨S, hS⟩ : ∃ S, showL s = S := ⟨_, rfl⟩
  rw [hS] at szS
  obtain ⟨W0, hW0⟩ : ∃ W0, ((w.alloc (.cells L.toArray 29)).alloc (.cells S.toArray 52)).alloc (.cells #[.slice none 0 0, .int .i64 0] 84) = W0 := ⟨_, rfl⟩
  have B0 : Below w.heap.size w W0 := by rw [← hW0]; exact below_step (below_step (below_new _ _) (below_new _ _)) (below_new _ _)
  have V0 : W0.heap[w.heap.size]? = some (.cells L.toArray 29 (0, 0)) := by rw [← hW0]; exact old_at (old_at (new_at rfl _) _) _
  have V1 : W0.heap[w.heap.size + 1]? = some (.cells S.toArray 52 (0, 0)) := by rw [← hW0]; exact old_at (new_at (by simp) _) _
  have V2 : W0.heap[w.heap.size + 1 + 1]? = some (.cells #[.slice none 0 0, .int .i64 0] 84 (0, 0)) := by rw [← hW0]; exact new_at (by simp) _
  have s4 : W0.heap.size = w.heap.size + 3 := by rw [← hW0]; simp
  have RL := range_of V0
  have RS := range_of V1
  have HL := Lib.hid hL
  have HW0 := Lib.hid hW0
  have HSS := Lib.hid hS
  rw [hS]
  clear hL hW0 hS
  refine (callsIn_wide (n := 0)).1 (callsIn_of_wp_marks Tryz.func12 rfl trivial ?_ rfl)
  refine wpIn_wide.2 ?_
  simp only [Tryz.ntmps12, List.size_toArray, List.length_cons, List.length_nil, Nat.reduceAdd, Nat.reduceSub, Array.replicate_succ, Array.replicate_zero, List.push_toArray, List.append_toArray, List.nil_append, List.cons_append]
  go_wp2_with (first
    | (rw [HW0.out]; refine wpList_load_g (by rfl) 29 (.tmp 2) (by rfl) w.heap.size 0 (by rfl) L _ RL Tryz.underlying29 rfl szL ?_)
    | refine wpList_load_g (by rfl) 52 (.tmp 3) (by rfl) (w.heap.size + 1) 0 (by rfl) S _ RS Tryz.underlying52 rfl szS ?_
    | fail)
  refine (fields_c L S _).mono ?_
  rintro e W1 ⟨rfl, hW1⟩
  have b1 : Below W0.heap.size W0 W1 := by rw [← hW1]; exact below_step (below_new _ _) (below_new _ _)
  have B1 := below_step B0 b1
  have s5 : W1.heap.size = W0.heap.size + 2 := by rw [← hW1]; simp
  have PP : FPre w W1 W0.heap.size (W0.heap.size + 1) L s := ⟨B1, by rw [← hW1]; exact old_at (new_at rfl _) _, by rw [← hW1, HSS.out]; exact new_at (by simp) _⟩
  have X1 := var_later V2 b1
  have PH := Lib.hid PP
  have HS4 := Lib.hid s4
  have HS5 := Lib.hid s5
  clear hW1 b1 RL RS V0 V1 V2 B0 PP HW0 s4 s5
  generalize W0.heap.size = g0 at *
  obtain ⟨fs, hfs⟩ : ∃ fs, flds s kinds nsig = fs := ⟨_, rfl⟩
  have hok := flds_ok s kinds nsig hcd.1
  have hln := flds_len2 s kinds nsig
  have hit := fields1 w L kinds ss nsig clr st A c A1 c1 s g0 (g0 + 1) HL.out hcd hk2
  rw [hfs] at hok hln hit
  have HFS := Lib.hid hfs
  have HOK := Lib.hid hok
  have HIT := Lib.hid hit
  clear hfs hit hok hk2 hcd
  go_wp2_with fail
  refine wp_iterA2 (xs := fs.map fun f => #[fV f]) (Fp := fun _ => False) (Rd := FRd w.heap.size g0 (g0 + 1)) (gf := 88) (lb := #[.pointer (some ⟨g0, 0, none⟩), .pointer (some ⟨g0 + 1, 0, none⟩)]) rfl (enters Tryz.func88 (by kernel_rfl) rfl) HIT.out ?hps
    (fun q O W => PI w W O (fbits (fs.take q))) (fun k => k = w.heap.size + 1 + 1)
    (fun z a W => ∃ (gp : Nat) (f : Fld), z = #[fV f] ∧ a = { tmps := #[.agg L.toArray, .agg S.toArray, .pointer (some ⟨w.heap.size, 0, none⟩), .pointer (some ⟨w.heap.size + 1, 0, none⟩), .slice none 0 0, .pointer (some ⟨w.heap.size + 1 + 1, 0, none⟩), .pointer (some ⟨gp, 0, none⟩), .agg L.toArray, .agg S.toArray, .func (.func 88) #[] #[.pointer (some ⟨g0, 0, none⟩), .pointer (some ⟨g0 + 1, 0, none⟩)], fV f, undef, undef, undef, undef, undef, undef, undef, undef, undef, undef, undef, undef, undef, undef, undef, undef, undef], defers := [] } ∧ W.heap[gp]? = some (.cells #[.int .i64 (f.1 : Int), .int .i64 (f.2 : Int)] 124 (0, 0)))
    ?hIO ?hpre ?hO ?hFp ?hI ?h0 ?hR ?assign ?body ?done
  case hps => intro z hz; simp only [List.mem_map] at hz; obtain ⟨p, _, rfl⟩ := hz; rfl
  case hIO =>
    rintro i O W ⟨⟨v, B, hg, ho, _, _, _, hO⟩, _⟩ k hk
    rcases (hO k).1 hk with rfl | h
    · exact (Array.getElem?_eq_some_iff.1 hg).1
    · exact (own_base ho h).2
  case hpre => exact fun W hW => PH.out.keep (Keep.of_below (S := fun k => k < W1.heap.size) hW (fun _ h _ => h)) (fun q hq => PH.out.lt hq)
  case hO =>
    rintro q rfl
    have h4 := HS4.out
    have h5 := HS5.out
    exact ⟨by omega, id, fun h => by unfold FRd at h; omega⟩
  case hFp => rintro q ⟨⟩
  case hI =>
    rintro i O W W' ⟨h1, h2⟩ hk
    have h4 := HS4.out
    have h5 := HS5.out
    exact ⟨Bt.acc_keep h1 hk (fun k hk => .inl hk), below_keep h2 hk (Nat.le_refl _) (fun q hq => .inr ⟨by omega, id⟩)⟩
  case h0 => exact ⟨⟨.slice none 0 0, [], X1, own_nil _ _ _ _, holds_nil, by omega, by simp [Value.ownBlock], fun k => by simp [Value.ownBlock]⟩, B1⟩
  case hR =>
    rintro z a W l o o' hl ⟨gp, f, h1, h2, h3⟩
    refine ⟨gp, f, h1, h2, (World.putObj_heap_other ?_).trans h3⟩
    rintro rfl
    rw [hl] at h3; cases h3
  case assign =>
    intro l' z W K0 hz hK0
    simp only [List.mem_map] at hz
    obtain ⟨f, hf, rfl⟩ := hz
    have HK0 := Lib.hid hK0
    clear hK0
    unfold fV
    gi_wp2
    exact HK0.out _ _ (below_new _ _) ⟨_, f, rfl, rfl, new_at rfl _⟩
  case body =>
    rintro l' i z O W a' hz hI ⟨gp, f, rfl, rfl, hgp⟩ hsz'
    have hi : fs[i]? = some f := by
      rw [List.getElem?_map] at hz
      obtain ⟨f', h1, h2⟩ := Option.map_eq_some_iff.1 hz
      have h3 : fV f' = fV f := by
        have := congrArg (fun x : Array Value => x.getD 0 undef) h2
        simpa using this
      have h4 : (f'.1 : Int) = (f.1 : Int) ∧ (f'.2 : Int) = (f.2 : Int) := by
        unfold fV at h3
        simp at h3
        omega
      rw [h1]
      congr 1
      exact Prod.ext (by omega) (by omega)
    have HT := Lib.hid (fbits_take hi)
    obtain ⟨hf1, hf8⟩ := HOK.out f (List.mem_of_getElem? hi)
    have hll : (fbits (fs.take i)).length ≤ 1080 := by
      rw [fbits_len]
      exact Nat.le_trans (sumW_le _ (fun g hg => (HOK.out g (List.mem_of_mem_take hg)).2)) (by rw [List.length_take]; omega)
    obtain ⟨⟨v, B, hg, ho, hH, hbg, hne, hO⟩, h2⟩ := hI
    generalize fbits (fs.take i) = l at *
    obtain ⟨f1, f2⟩ := f
    simp only at hgp hf8 hf1
    have y0 := cell_at hgp 0
    have y1 := cell_at hgp 1
    have x0 := cell_at hg 0
    have x1 := cell_at hg 1
    have HG := Lib.hid hg
    have HO := Lib.hid hO
    have H2 := Lib.hid h2
    have hgl := (Array.getElem?_eq_some_iff.1 hg).1
    have hss := sliceAt_of_own ho
    obtain ⟨Av, cv, rfl, _⟩ := hss.form
    clear hz hi hg hO h2 hbg hne hgp ho
    gi_wp2_with fail
    refine ⟨trivial, rfl, (CallsIn.inRound _ (callsIn_wide.2 (Bt.Put_good _ B l f1 f2 W hss hH (by omega) (by omega) hf1))).mono ?_⟩
    rintro e W2 ⟨b2, v', B', rfl, ho', hH'⟩
    obtain ⟨Aw, cw, rfl, _⟩ := (sliceAt_of_own ho').form
    have hg2 := var_later HG.out b2
    have f0 := free_at hg2 0
    have f1' := free_at hg2 1
    have z0 := cell_at hg2 0
    have z1 := cell_at hg2 1
    have HF := Lib.hid (And.intro ho' (And.intro hg2 hH'))
    have HB2 := Lib.hid b2
    clear x0 x1 y0 y1 hss hH ho' hH' hg2 b2
    gi_wp2
    obtain ⟨ho', hg2, hH'⟩ := HF.out
    have G := set_at (set_at hg2 0 (.slice Aw B'.length cw)) 1 (.int .i64 ((l.length : Int) + (f2 : Int)))
    have O2 := Bt.own_set (Bt.own_set ho' (p := ⟨w.heap.size + 1 + 1, 0, none⟩) hgl (.slice Aw B'.length cw)) (p := ⟨w.heap.size + 1 + 1, 1, none⟩) hgl (.int .i64 ((l.length : Int) + (f2 : Int)))
    refine ⟨fun k => k = w.heap.size + 1 + 1 ∨ (Value.slice Aw B'.length cw).ownBlock = some k, ?_, ?_, ?_⟩
    · dsimp only
      rw [HT.out]
      refine ⟨⟨.slice Aw B'.length cw, B', ?_, Bt.own_base_le O2 (by omega), hH', by omega, fun h => by have := (own_base ho' h).1; omega, fun k => Iff.rfl⟩, below_set (below_set (below_step H2.out HB2.out) (by omega) _ _) (by omega) _ _⟩
      rw [G, List.length_append, numBits_length]
      simp
    · rintro k (rfl | h)
      · exact .inl ((HO.out _).2 (.inl rfl))
      · exact .inr (own_base ho' h).1
    · exact ((keep_all HB2.out _).setCell (p := ⟨w.heap.size + 1 + 1, 0, none⟩) (fun _ h => h ((HO.out _).2 (.inl rfl))) _).setCell (p := ⟨w.heap.size + 1 + 1, 1, none⟩) (fun _ h => h ((HO.out _).2 (.inl rfl))) _
  case done =>
    rintro D O W ⟨⟨v, B, hg, ho, hH, hbg, hne, hO⟩, h2⟩ hD1 hD2
    have h4 := HS4.out
    have h5 := HS5.out
    rw [List.length_map, List.take_of_length_le (Nat.le_refl _)] at hH
    have hl0 : (fbits (List.take (fs.map fun f => #[fV f]).length fs)) = fbits fs := by rw [List.length_map, List.take_of_length_le (Nat.le_refl _)]
    rw [hl0] at hg
    have hll : (fbits fs).length ≤ 1080 := by
      rw [fbits_len]
      exact Nat.le_trans (sumW_le _ (fun g hg => (HOK.out g hg).2)) (by omega)
    rw [← HFS.out] at hH hg hll
    obtain ⟨l, hl⟩ : ∃ l0, fbits (flds s kinds nsig) = l0 := ⟨_, rfl⟩
    rw [hl] at hH hg hll
    have HLQ := Lib.hid hl
    clear hl
    have hBl := hH.1
    have hB200 : B.length ≤ 200 := by omega
    have x0 := cell_at hg 0
    have x1 := cell_at hg 1
    have HG := Lib.hid hg
    have HH := Lib.hid hH
    have H2 := Lib.hid h2
    have HD2 := Lib.hid hD2
    have hDl := (Array.getElem?_eq_some_iff.1 hD2).1
    have hss := sliceAt_of_own ho
    obtain ⟨Av, cv, rfl, _⟩ := hss.form
    clear hg hO h2 hbg hne ho hl0 hBl hD2
    go_wp2_with fail
    refine (Bt.Pad_good _ B l W hss hH (by omega)).mono ?_
    rintro e W2 ⟨b2, v', rfl, ho'⟩
    obtain ⟨Aw, cw, rfl, _⟩ := (sliceAt_of_own ho').form
    have hg2 := var_later HG.out b2
    have hgl : w.heap.size + 1 + 1 < W.heap.size := (Array.getElem?_eq_some_iff.1 HG.out).1
    have f0 := free_at hg2 0
    have f1 := free_at hg2 1
    have z0 := cell_at hg2 0
    have z1 := cell_at hg2 1
    have HX := Lib.hid (set_at (set_at hg2 0 (.slice Aw B.length cw)) 1 (.int .i64 ((B.length : Int) * 8)))
    have HO2 := Lib.hid (Bt.own_set (Bt.own_set ho' (p := ⟨w.heap.size + 1 + 1, 0, none⟩) hgl (.slice Aw B.length cw)) (p := ⟨w.heap.size + 1 + 1, 1, none⟩) hgl (.int .i64 ((B.length : Int) * 8)))
    have HB := Lib.hid (below_set (below_set (below_step H2.out b2) (show w.heap.size ≤ w.heap.size + 1 + 1 by omega) 0 (.slice Aw B.length cw)) (show w.heap.size ≤ w.heap.size + 1 + 1 by omega) 1 (.int .i64 ((B.length : Int) * 8)))
    have HD3 := Lib.hid (set_far (set_far (var_later HD2.out b2) (p := ⟨w.heap.size + 1 + 1, 0, none⟩) (by simp; omega) (.slice Aw B.length cw)) (p := ⟨w.heap.size + 1 + 1, 1, none⟩) (by simp; omega) (.int .i64 ((B.length : Int) * 8)))
    clear x0 x1 hss hg2 b2 ho'
    go_wp2_with fail
    have hss2 := sliceAt_of_own HO2.out
    generalize ((W2.setCell _ _).setCell _ _) = W3 at *
    refine (Clone_c _ B W3 hss2 (by omega)).mono ?_
    rintro e W4 ⟨v4, rfl, ho4, b4⟩
    obtain ⟨A4, c4, rfl, _⟩ := (sliceAt_of_own ho4).form
    have HO4 := Lib.hid ho4
    have HB4 := Lib.hid (below_step HB.out b4)
    have HD4 := Lib.hid (var_later HD3.out b4)
    have hsz3 := (Array.getElem?_eq_some_iff.1 HD3.out).1
    clear ho4 b4 hss2
    go_wp2
    have HH2 := HH.out
    rw [← HLQ.out] at HH2
    exact bodyPostM_mark (t := 4) rfl (.inr rfl) HD4.out ⟨below_putObj HB4.out (by omega) _, A4, c4, B, rfl, Bt.own_base_le (own_later HO4.out fun g hg => World.putObj_heap_other (by have := (own_base HO4.out hg).1; omega)) (by have := HB.out.size; omega), HH2⟩
end Go.Proofs.YtppcdmbpbbjecaaGreat
