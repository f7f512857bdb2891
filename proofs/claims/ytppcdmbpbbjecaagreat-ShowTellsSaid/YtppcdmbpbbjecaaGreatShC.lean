/- Shows: the iterator over a show's numbers, whole. Nothing that was there is turned but by yield. -/
import Derived.Test.YtppcdmbpbbjecaaGreatShB
namespace Go.Proofs.YtppcdmbpbbjecaaGreat
open List renaming getElem_toArray → zA, getElem_cons_succ → zS, getElem_cons_zero → zZ, setIfInBounds_toArray → zP, set_cons_zero → zQ, set_cons_succ → zR
open Go.RowKit Rf Mem Bv AM SM
attribute [local go_sem ↓] run_max2 run_min2
attribute [local go_sem] Oper.semAt_some
theorem mask255 (x : Int) : Go.bits .and .i64 x 255 = x % 256 := by
  have h : ((BitVec.ofInt 64 x) &&& (BitVec.ofInt 64 255)).toNat = (x % 18446744073709551616).toNat % 256 := by
    rw [BitVec.toNat_and, BitVec.toNat_ofInt, BitVec.toNat_ofInt]
    exact Nat.and_two_pow_sub_one_eq_mod _ 8
  have h2 : Go.bits .and .i64 x 255 = IntKind.i64.wrap (((BitVec.ofInt 64 x) &&& (BitVec.ofInt 64 255)).toNat : Int) := rfl
  rw [h2, h]
  exact (IntWalk.i64_in _ (by omega)).trans (by omega)
/-- what the iterator reads -/
structure FPre (w W : World) (gl gs : Nat) (L : List Value) (s : ShowM) : Prop where
  bel : Below w.heap.size w W
  l : W.heap[gl]? = some (.cells L.toArray 29 (0, 0))
  s : W.heap[gs]? = some (.cells (showL s).toArray 52 (0, 0))
def FRd (n gl gs q : Nat) : Prop := q < n ∨ q = gl ∨ q = gs
theorem FPre.keep {S : Nat → Prop} {w W W' : World} {gl gs : Nat} {L : List Value} {s : ShowM} (h : FPre w W gl gs L s) (hk : Keep S W W') (hS : ∀ q, FRd w.heap.size gl gs q → S q) : FPre w W' gl gs L s :=
  ⟨below_keep h.bel hk (Nat.le_refl _) (fun q hq => hS q (.inl hq)), hk.at_ h.l (hS _ (.inr (.inl rfl))), hk.at_ h.s (hS _ (.inr (.inr rfl)))⟩
theorem FPre.lt {w W : World} {gl gs : Nat} {L : List Value} {s : ShowM} (h : FPre w W gl gs L s) {q : Nat} (hq : FRd w.heap.size gl gs q) : q < W.heap.size := by
  rcases hq with h1 | rfl | rfl
  · exact Nat.lt_of_lt_of_le h1 h.bel.size
  · exact (Array.getElem?_eq_some_iff.1 h.l).1
  · exact (Array.getElem?_eq_some_iff.1 h.s).1
abbrev zSec : Array Value := #[.int .u8 0, .int .i64 0, .int .i64 0, .int .i64 0, .int .i64 0, .int .i64 0, .int .i64 0, .int .i64 0, .int .i64 0, .int .i64 0, .int .i64 0]
theorem sec_size {cs : List Value} (h : cs.length = 11) : (Tryz.prog.info? 96).map (·.size) = some cs.length := by rw [h]; kernel_rfl
set_option maxHeartbeats 8000000 in
set_option maxRecDepth 100000 in
theorem fields1 (w : World) (L : List Value) (kinds : List Int) (ss : List (List Value)) (nsig : Nat) (clr st : Int) (A : Option Addr) (c : Nat) (A1 : Option Addr) (c1 : Nat) (s : ShowM) (gl gs : Nat) (hL : LY w L kinds ss nsig clr st A c A1 c1) (hcd : 0 ≤ s.code ∧ s.code ≤ 255) (hk2 : ∀ z ∈ kinds, 0 ≤ z ∧ z ≤ 255) :
    Iter2 Tryz.prog 88 #[.pointer (some ⟨gl, 0, none⟩), .pointer (some ⟨gs, 0, none⟩)] (fun _ => False) (FRd w.heap.size gl gs) ((flds s kinds nsig).map fun f => #[fV f]) (fun W => FPre w W gl gs L s) := by
  intro l J O0 W0 hPre hO hJO hJ hY hj0
  have szL := lay_size hL.f.len
  have hno : ∀ q, FRd w.heap.size gl gs q → ¬ O0 q := fun q hq h => (hO q h).2.2 hq
  have b1 := below_new W0 (.cells #[.func (.yield l) #[] #[]] 154)
  have Y1 := new_at (w := W0) rfl (.cells #[.func (.yield l) #[] #[]] 154)
  have P1 := hPre.keep (keep_all b1 _) (fun q _ => trivial) (S := fun _ => True)
  have nyb : ¬ O0 W0.heap.size := fun h => by have := (hO _ h).1; omega
  have hJB : ∀ i O W W', J i O W → Below W.heap.size W W' → J i O W' := fun i O W W' h b => hJ i O W W' h (keep_all b _)
  obtain ⟨W1, hW1⟩ : ∃ W1, W0.alloc (.cells #[.func (.yield l) #[] #[]] 154) = W1 := ⟨_, rfl⟩
  rw [hW1] at b1 Y1 P1
  obtain ⟨xs, hxs⟩ : ∃ xs, flds s kinds nsig = xs := ⟨_, rfl⟩
  rw [hxs] at hY
  have HI0 : ISf l xs (fun W => Keep (fun k => ¬ O0 k) W1 W) (St J O0 W1) := isf_of (N := W0.heap.size) hJB hY b1.size
  have HF0 : ∀ W, Keep (fun k => ¬ O0 k) W1 W → FPre w W gl gs L s ∧ W.heap[W0.heap.size]? = some (.cells #[.func (.yield l) #[] #[]] 154 (0, 0)) := fun W hk => ⟨P1.keep hk hno, hk.at_ Y1 nyb⟩
  have S0 : St J O0 W1 0 W1 := ⟨O0, hJB _ _ _ _ hj0 b1, Past.refl _ _⟩
  have HEND : Hid (∀ W, St J O0 W1 xs.length W → ∃ O, J ((flds s kinds nsig).map fun f => #[fV f]).length O W) := Lib.hid (fun W ⟨O, h, _⟩ => ⟨O, by rw [List.length_map, hxs]; exact h⟩)
  have HSEC : Hid (∀ k j (v : Fld), k < min kinds.length 24 → (secF s kinds k)[j]? = some v → xs[(secsF s kinds k).length + j]? = some v) := Lib.hid (fun k j v hk hv => by rw [← hxs]; exact secs_at hk hv)
  have HSIG : Hid (∀ k j (v : Fld), k < min nsig 12 → (sigF s k)[j]? = some v → xs[(secsF s kinds (min kinds.length 24)).length + ((sigsF s k).length + j)]? = some v) := Lib.hid (fun k j v hk hv => by rw [← hxs]; exact sigs_at hk hv)
  have HTL : Hid (∀ j (v : Fld), (endF s)[j]? = some v → xs[(secsF s kinds (min kinds.length 24)).length + (sigsF s (min nsig 12)).length + j]? = some v) := Lib.hid (fun j v hv => by rw [← hxs]; exact end_at hv)
  have HLEN : Hid (xs.length = (secsF s kinds (min kinds.length 24)).length + (sigsF s (min nsig 12)).length + 3) := Lib.hid (by rw [← hxs]; exact flds_len _ _ _)
  have HW1 := Lib.hid hW1
  have HII := Lib.hid HI0
  have HFF := Lib.hid HF0
  have HS := Lib.hid S0
  have HY := Lib.hid hY
  have HJO := Lib.hid hJO
  have HJB := Lib.hid hJB
  have HNO := Lib.hid (And.intro hno nyb)
  have HP1 := Lib.hid (And.intro P1 (lt_at Y1))
  have HSZ := Lib.hid b1.size
  clear hJ hO hj0 hY hJO hJB hno nyb HI0 HF0 S0 hxs hPre hW1
  refine callsIn_of_wp Tryz.func88 rfl trivial ?_ rfl
  simp only [Tryz.ntmps88, List.size_toArray, List.length_cons, List.length_nil, Nat.reduceAdd, Nat.reduceSub, Array.replicate_succ, Array.replicate_zero, List.push_toArray, List.append_toArray, List.nil_append, List.cons_append]
  obtain ⟨m, hm⟩ : ∃ m, m = min kinds.length 24 := ⟨_, rfl⟩
  have RL := range_of P1.l
  gi_wp2_with (first
    | (rw [HW1.out]; refine wpListIn_load_g rfl 29 (.tmp 1) (by rfl) gl 0 (by rfl) L _ RL Tryz.underlying29 rfl szL ?_)
    | fail)
  refine ⟨trivial, rfl, (callsIn_wide.2 (sections_c L kinds ss nsig clr st A c A1 c1 m W1 hm (hL.later P1.bel))).mono ?_⟩
  rintro e W2 ⟨rfl, b2⟩
  have HM := Lib.hid hm
  have hml : m ≤ kinds.length := by omega
  have hm24 : m ≤ 24 := by omega
  obtain ⟨hc1, hc2⟩ := hL.cap
  have i0 : m ≤ c := by omega
  replace HS := Lib.hid (HII.out.later _ _ _ HS.out b2)
  generalize W0.heap.size = yb at *
  clear RL hm b2 b1 P1 Y1 hc1 hc2
  gi_wp2
  gi_loopw [12] (fun i wr => ∃ k : Nat, k ≤ m ∧ i = .int .i64 k ∧ Hid (St J O0 W1 (secsF s kinds k).length wr)) (fun i _ => m - (intOf i).toNat)
  case atStart => exact ⟨0, Nat.zero_le _, rfl, HS⟩
  case round =>
    clear HS
    obtain ⟨k, hk, rfl, HS⟩ := hrel
    by_cases hlt : k < m
    · obtain ⟨pf, yw⟩ := HFF.out _ (HII.out.pf _ _ HS.out)
      obtain ⟨b, off, sc, rfl, hbl, hr, hscl, hsone, hk0⟩ := (hL.later pf.bel).row (k := k) (by omega)
      obtain ⟨kd, hkd⟩ : ∃ z, kinds.getD k 0 = z := ⟨_, rfl⟩
      rw [hkd] at hk0
      have szS := sec_size hscl
      obtain ⟨Ws, hWs, k3, k4, k2⟩ := newv (V := wr) sc zSec 96 (by rw [hscl]; rfl)
      have szm : (Tryz.prog.info? 96).map (·.size) = some sc.toArray.size := by simpa using szS
      have oneS : sc.toArray.all (·.oneCell') = true := all_one hsone
      have HWS := Lib.hid hWs
      have i1 : (k : Int) < (m : Int) := by omega
      have i2 : (k : Int) < 32 := by omega
      obtain ⟨n0, hn0⟩ : ∃ n, (secsF s kinds k).length = n := ⟨_, rfl⟩
      rw [hn0] at HS
      have HN0 := Lib.hid hn0
      have HKD := Lib.hid hkd
      have hx0 := HSEC.out k 0 _ (by rw [← HM.out]; exact hlt) rfl
      have hx1 := HSEC.out k 1 _ (by rw [← HM.out]; exact hlt) rfl
      rw [hn0] at hx0 hx1
      have HX0 := Lib.hid hx0
      have HX1 := Lib.hid hx1
      -- a base of this round's own
      obtain ⟨O, hj, hp⟩ := HS.out
      have hj2 := HJB.out _ _ _ _ hj k4
      have HI1 : ISf l xs (fun W => Keep (fun q => ¬ O q) Ws W) (St J O Ws) := isf_of HJB.out HY.out (Nat.le_trans HSZ.out (Nat.le_trans hp.keep.size k4.size))
      have S1 : St J O Ws n0 Ws := ⟨O, hj2, Past.refl _ _⟩
      have no1 : ∀ q, FRd w.heap.size gl gs q → ¬ O q := fun q hq h => HNO.out.1 q hq (hp.own q (HP1.out.1.lt hq) h)
      have ny1 : ¬ O yb := fun h => HNO.out.2 (hp.own yb HP1.out.2 h)
      have n6 : ¬ O wr.heap.size := fun h => by have := HJO.out _ _ _ hj _ h; omega
      have P2 := pf.keep (keep_all k4 (fun _ => True)) (fun _ _ => trivial)
      have Y2 := var_later yw k4
      have HF1 : ∀ W, Keep (fun q => ¬ O q) Ws W → FPre w W gl gs L s ∧ W.heap[yb]? = some (.cells #[.func (.yield l) #[] #[]] 154 (0, 0)) ∧ W.heap[wr.heap.size]? = some (.cells sc.toArray 96 (0, 0)) := fun W hk => ⟨P2.keep hk no1, hk.at_ Y2 ny1, hk.at_ k3 n6⟩
      have HFy : ∀ W, Keep (fun q => ¬ O q) Ws W → W.cell? ⟨yb, 0, none⟩ = some (.func (.yield l) #[] #[]) := fun W hk => by rw [cell_at (HF1 W hk).2.1]; rfl
      have HBK : Hid (∀ n W, St J O Ws n W → St J O0 W1 n W) := Lib.hid (fun n W ⟨O', h1, h2⟩ => ⟨O', h1, past_trans (past_below hp k4) h2⟩)
      have HI1' := Lib.hid HI1
      have HF1' := Lib.hid HF1
      have HFy' := Lib.hid HFy
      have HS1 := Lib.hid S1
      have z0 := cell_list P2.s (i := 0) rfl
      clear hj hp hj2 no1 ny1 n6 HI1 S1 HF1 HFy pf yw hsone hscl hWs hx0 hx1 hn0 hkd hL HS Y2
      gi_wp2_with (first
        | refine wpListIn_load_g rfl 96 (.tmp 15) (by rfl) b (off + k * 11) (by rfl) sc _ hr Tryz.underlying96 rfl szS ?_
        | (refine wpListIn_store_g rfl 96 (.tmp 6) (.tmp 16) (by rfl) wr.heap.size 0 sc.toArray (by rfl) (by rfl) k2 szm oneS ?_; rw [HWS.out])
        | fail)
      refine ⟨trivial, rfl, (flag_s HI1'.out HFy'.out s.clear k n0 Ws (by omega) HX0.out HS1.out).mono ?_⟩
      rintro e W3 ⟨rfl, hS3⟩
      obtain ⟨P3, Y3, K3⟩ := HF1'.out _ (HI1'.out.pf _ _ hS3)
      have z1 := cell_list P3.s (i := 1) rfl
      have HS3 := Lib.hid hS3
      clear hS3 z0 hr k2 szm oneS k4 HWS P2 HS1 k3 i1
      generalize wr.heap.size = g6 at *
      gi_wp2
      refine ⟨trivial, rfl, (flag_s HI1'.out HFy'.out s.held k (n0 + 1) W3 (by omega) HX1.out HS3.out).mono ?_⟩
      rintro e W4 ⟨rfl, hS4⟩
      replace HS4 := Lib.hid (HI1'.out.later _ _ _ hS4 (Below.refl _ W4).drew)
      clear hS4 z1 P3 Y3 K3 HS3
      gi_wp2
      obtain ⟨P4, Y4, K4⟩ := HF1'.out _ (HI1'.out.pf _ _ HS4.out)
      have hkr : 0 ≤ kd ∧ kd ≤ 255 := by
        rw [← HKD.out]
        obtain ⟨z, hz⟩ : ∃ z, kinds[k]? = some z := ⟨_, List.getElem?_eq_getElem (by omega)⟩
        rw [show kinds.getD k 0 = z by simp [List.getD, hz]]
        exact hk2 z (List.mem_of_getElem? hz)
      obtain ⟨d, hd⟩ : ∃ d, (kd == 2) = d := ⟨_, rfl⟩
      have HD := Lib.hid hd
      have hlm : lampN s.normal s.reverse k ≤ 2 := by unfold lampN; split <;> (try split) <;> omega
      have HLA : Hid (d = true → xs[n0 + 2]? = some (lampN s.normal s.reverse k, 2) ∧ xs[n0 + 3]? = some (bitN s.locked k, 1)) := Lib.hid (fun h => by
        have e : secF s kinds k = [(bitN s.clear k, 1), (bitN s.held k, 1), (lampN s.normal s.reverse k, 2), (bitN s.locked k, 1)] := by
          unfold secF; rw [HKD.out, HD.out, h]; rfl
        rw [← HN0.out]
        exact ⟨HSEC.out k 2 _ (by rw [← HM.out]; exact hlt) (by rw [e]; rfl), HSEC.out k 3 _ (by rw [← HM.out]; exact hlt) (by rw [e]; rfl)⟩)
      have HLE : Hid ((secsF s kinds (k + 1)).length = if d = true then n0 + 4 else n0 + 2) := Lib.hid (by
        rw [secsF_succ, List.length_append, HN0.out]
        unfold secF
        rw [HKD.out, HD.out]
        cases d <;> rfl)
      obtain ⟨lm, hlmv⟩ : ∃ z, lampN s.normal s.reverse k = z := ⟨_, rfl⟩
      rw [hlmv] at HLA hlm
      have HLM := Lib.hid hlmv
      clear hlmv
      refine wpIn_region_F (S := (fun w' => w'.cell? ⟨g6, 0, none⟩ = some (.int .u8 kd) ∧ w'.cell? ⟨yb, 0, none⟩ = some (.func (.yield l) #[] #[]) ∧ w'.cell? ⟨gs, 2, none⟩ = some (.int .u32 s.normal.toNat) ∧ w'.cell? ⟨gs, 3, none⟩ = some (.int .u32 s.reverse.toNat) ∧ w'.cell? ⟨gs, 4, none⟩ = some (.int .u32 s.locked.toNat))) (by kernel_rfl) ?_ (fun hHeld => ?_)
      · exact ⟨cell_list K4 hk0, by rw [cell_at Y4]; rfl, cell_list P4.s rfl, cell_list P4.s rfl, cell_list P4.s rfl⟩
      generalize W4.drew = X at *
      clear P4 Y4 K4
      refine wpAnyF_take (i := 0) (v := ?_) rfl (by kernel_rfl) (by kernel_rfl) (by kernel_rfl) (fun _ _ _ h => h) (Or.inl ⟨by kernel_rfl, ?_⟩) (by assumption) ?_
      rotate_left
      · intro w hSw
        try dsimp only at hSw
        go_simp
        try with_reducible rfl
      simp only [zA, zS, zZ, Act.put, zP, zQ, zR]
      refine wpAnyF_take (i := 1) (v := ?_) rfl (by kernel_rfl) (by kernel_rfl) (by kernel_rfl) (fun _ _ _ h => h) (Or.inl ⟨by kernel_rfl, ?_⟩) (by assumption) ?_
      rotate_left
      · intro w hSw
        try dsimp only at hSw
        go_simp
        try with_reducible rfl
      simp only [zA, zS, zZ, Act.put, zP, zQ, zR]
      refine wpAnyF_take (i := 2) (v := ?_) rfl (by kernel_rfl) (by kernel_rfl) (by kernel_rfl) (fun _ _ _ h => h) (Or.inl ⟨by kernel_rfl, ?_⟩) (by assumption) ?_
      rotate_left
      · intro w hSw
        try dsimp only at hSw
        go_simp
        try with_reducible rfl
      simp only [zA, zS, zZ, Act.put, zP, zQ, zR]
      refine wpAnyF_take (i := 3) (v := ?_) rfl (by kernel_rfl) (by kernel_rfl) (by kernel_rfl) (fun _ _ _ h => h) (Or.inl ⟨by kernel_rfl, ?_⟩) (by assumption) ?_
      rotate_left
      · intro w hSw
        try dsimp only at hSw
        go_simp
        try with_reducible rfl
      simp only [zA, zS, zZ, Act.put, zP, zQ, zR]
      cases d
      · skip
        refine wpAnyF_take (i := 4) (v := undef) rfl (by kernel_rfl) (by kernel_rfl) (by kernel_rfl) (fun _ _ _ h => h) (Or.inr ⟨by kernel_rfl, rfl⟩) (by assumption) ?_
        refine wpAnyF_take (i := 5) (v := undef) rfl (by kernel_rfl) (by kernel_rfl) (by kernel_rfl) (fun _ _ _ h => h) (Or.inr ⟨by kernel_rfl, rfl⟩) (by assumption) ?_
        refine wpAnyF_take (i := 6) (v := undef) rfl (by kernel_rfl) (by kernel_rfl) (by kernel_rfl) (fun _ _ _ h => h) (Or.inr ⟨by kernel_rfl, rfl⟩) (by assumption) ?_
        refine wpAnyF_take (i := 7) (v := undef) rfl (by kernel_rfl) (by kernel_rfl) (by kernel_rfl) (fun _ _ _ h => h) (Or.inr ⟨by kernel_rfl, rfl⟩) (by assumption) ?_
        refine wpAnyF_take (i := 8) (v := undef) rfl (by kernel_rfl) (by kernel_rfl) (by kernel_rfl) (fun _ _ _ h => h) (Or.inr ⟨by kernel_rfl, rfl⟩) (by assumption) ?_
        refine wpAnyF_take (i := 9) (v := undef) rfl (by kernel_rfl) (by kernel_rfl) (by kernel_rfl) (fun _ _ _ h => h) (Or.inr ⟨by kernel_rfl, rfl⟩) (by assumption) ?_
        refine wpAnyF_take (i := 10) (v := undef) rfl (by kernel_rfl) (by kernel_rfl) (by kernel_rfl) (fun _ _ _ h => h) (Or.inr ⟨by kernel_rfl, rfl⟩) (by assumption) ?_
        refine wpAnyF_take (i := 11) (v := undef) rfl (by kernel_rfl) (by kernel_rfl) (by kernel_rfl) (fun _ _ _ h => h) (Or.inr ⟨by kernel_rfl, rfl⟩) (by assumption) ?_
        refine wpAnyF_take (i := 12) (v := undef) rfl (by kernel_rfl) (by kernel_rfl) (by kernel_rfl) (fun _ _ _ h => h) (Or.inr ⟨by kernel_rfl, rfl⟩) (by assumption) ?_
        refine wpAnyF_take (i := 13) (v := undef) rfl (by kernel_rfl) (by kernel_rfl) (by kernel_rfl) (fun _ _ _ h => h) (Or.inr ⟨by kernel_rfl, rfl⟩) (by assumption) ?_
        refine wpAnyF_take (i := 14) (v := undef) rfl (by kernel_rfl) (by kernel_rfl) (by kernel_rfl) (fun _ _ _ h => h) (Or.inr ⟨by kernel_rfl, rfl⟩) (by assumption) ?_
        refine wpAnyF_take (i := 15) (v := undef) rfl (by kernel_rfl) (by kernel_rfl) (by kernel_rfl) (fun _ _ _ h => h) (Or.inr ⟨by kernel_rfl, rfl⟩) (by assumption) ?_
        refine wpAnyF_take (i := 16) (v := undef) rfl (by kernel_rfl) (by kernel_rfl) (by kernel_rfl) (fun _ _ _ h => h) (Or.inr ⟨by kernel_rfl, rfl⟩) (by assumption) ?_
        refine wpAnyF_take (i := 17) (v := undef) rfl (by kernel_rfl) (by kernel_rfl) (by kernel_rfl) (fun _ _ _ h => h) (Or.inr ⟨by kernel_rfl, rfl⟩) (by assumption) ?_
        refine wpAnyF_take (i := 18) (v := undef) rfl (by kernel_rfl) (by kernel_rfl) (by kernel_rfl) (fun _ _ _ h => h) (Or.inr ⟨by kernel_rfl, rfl⟩) (by assumption) ?_
        refine wpAnyF_take (i := 19) (v := undef) rfl (by kernel_rfl) (by kernel_rfl) (by kernel_rfl) (fun _ _ _ h => h) (Or.inr ⟨by kernel_rfl, rfl⟩) (by assumption) ?_
        refine wpAnyF_take (i := 20) (v := undef) rfl (by kernel_rfl) (by kernel_rfl) (by kernel_rfl) (fun _ _ _ h => h) (Or.inr ⟨by kernel_rfl, rfl⟩) (by assumption) ?_
        refine wpAnyF_take (i := 21) (v := undef) rfl (by kernel_rfl) (by kernel_rfl) (by kernel_rfl) (fun _ _ _ h => h) (Or.inr ⟨by kernel_rfl, rfl⟩) (by assumption) ?_
        simp only [zA, zS, zZ, Act.put, zP, zQ, zR]
        refine wpAnyF_take (i := 22) (v := ?_) rfl (by kernel_rfl) (by kernel_rfl) (by kernel_rfl) (fun _ _ _ h => h) (Or.inl ⟨by kernel_rfl, ?_⟩) (by assumption) ?_
        rotate_left
        · intro w hSw
          try dsimp only at hSw
          go_simp
          try with_reducible rfl
        simp only [zA, zS, zZ, Act.put, zP, zQ, zR]
        clear hHeld
        refine wpAnyF_done (by kernel_rfl) ?_ _
        gi_wp2
        go_roundw
        case rel => exact ⟨k + 1, by omega, by go_num, Lib.hid (by rw [HLE.out]; exact HBK.out _ _ HS4.out)⟩
        case measure => simp [intOf]; omega
      · obtain ⟨hx2, hx3⟩ := HLA.out rfl
        have HX2 := Lib.hid hx2
        have HX3 := Lib.hid hx3
        clear hx2 hx3 HLA
        refine wpAnyF_take (i := 4) (v := ?_) rfl (by kernel_rfl) (by kernel_rfl) (by kernel_rfl) (fun _ _ _ h => h) (Or.inl ⟨by kernel_rfl, ?_⟩) (by assumption) ?_
        rotate_left
        · intro w hSw
          try dsimp only at hSw
          go_simp
          try with_reducible rfl
        simp only [zA, zS, zZ, Act.put, zP, zQ, zR]
        refine wpAnyF_take (i := 5) (v := ?_) rfl (by kernel_rfl) (by kernel_rfl) (by kernel_rfl) (fun _ _ _ h => h) (Or.inl ⟨by kernel_rfl, ?_⟩) (by assumption) ?_
        rotate_left
        · intro w hSw
          try dsimp only at hSw
          go_simp
          try with_reducible rfl
        simp only [zA, zS, zZ, Act.put, zP, zQ, zR]
        refine wpAnyF_take (i := 6) (v := ?_) rfl (by kernel_rfl) (by kernel_rfl) (by kernel_rfl) (fun _ _ _ h => h) (Or.inl ⟨by kernel_rfl, ?_⟩) (by assumption) ?_
        rotate_left
        · intro w hSw
          try dsimp only at hSw
          go_simp
          try with_reducible rfl
        simp only [zA, zS, zZ, Act.put, zP, zQ, zR]
        refine wpAnyF_take (i := 7) (v := ?_) rfl (by kernel_rfl) (by kernel_rfl) (by kernel_rfl) (fun _ _ _ h => h) (Or.inl ⟨by kernel_rfl, ?_⟩) (by assumption) ?_
        rotate_left
        · intro w hSw
          try dsimp only at hSw
          go_simp
          try with_reducible rfl
        simp only [zA, zS, zZ, Act.put, zP, zQ, zR]
        refine wpAnyF_take (i := 8) (v := ?_) rfl (by kernel_rfl) (by kernel_rfl) (by kernel_rfl) (fun _ _ _ h => h) (Or.inl ⟨by kernel_rfl, ?_⟩) (by assumption) ?_
        rotate_left
        · intro w hSw
          try dsimp only at hSw
          go_simp
          try with_reducible rfl
        simp only [zA, zS, zZ, Act.put, zP, zQ, zR]
        refine wpAnyF_take (i := 9) (v := ?_) rfl (by kernel_rfl) (by kernel_rfl) (by kernel_rfl) (fun _ _ _ h => h) (Or.inl ⟨by kernel_rfl, ?_⟩) (by assumption) ?_
        rotate_left
        · intro w hSw
          try dsimp only at hSw
          go_simp
          try with_reducible rfl
        simp only [zA, zS, zZ, Act.put, zP, zQ, zR]
        clear hHeld
        refine readyF (i := 10) rfl (by kernel_rfl) (by kernel_rfl) (fun K_ hK => ?_)
        refine wpInF_fn 90 [.tmp 37, .tmp 39, .tmp 40] _ [.int .u32 s.normal.toNat, .int .u32 s.reverse.toNat, .int .i64 k] (by rfl) (by rfl) (enters Tryz.func90 (by kernel_rfl) rfl) (callsIn_wide.2 (lamp_c s.normal s.reverse k lm X (by omega) (by rw [HLM.out]))) ?_
        rintro e X1 ⟨rfl, bF⟩
        refine ⟨_, rfl, ?_⟩
        replace HS4 := Lib.hid (HI1'.out.later _ _ _ HS4.out bF)
        obtain ⟨P4, Y4, K4⟩ := HF1'.out _ (HI1'.out.pf _ _ HS4.out)
        refine hK.out _ _ ⟨cell_list K4 hk0, by rw [cell_at Y4]; rfl, cell_list P4.s rfl, cell_list P4.s rfl, cell_list P4.s rfl⟩ (fun hHeld => ?_)
        clear hK K_ bF P4 Y4 K4
        try simp only [zA, zS, zZ, Act.put, zP, zQ, zR]
        refine wpAnyF_take (i := 11) (v := ?_) rfl (by kernel_rfl) (by kernel_rfl) (by kernel_rfl) (fun _ _ _ h => h) (Or.inl ⟨by kernel_rfl, ?_⟩) (by assumption) ?_
        rotate_left
        · intro w hSw
          try dsimp only at hSw
          go_simp
          try with_reducible rfl
        simp only [zA, zS, zZ, Act.put, zP, zQ, zR]
        clear hHeld
        refine readyF (i := 12) rfl (by kernel_rfl) (by kernel_rfl) (fun K_ hK => ?_)
        refine wpInF_yield (.tmp 35) l [.tmp 42] _ [fV (lm, 2)] (by rfl) (by rfl) (by rfl) (HI1'.out.step _ _ X1 HX2.out HS4.out) ?_
        rintro e X2 ⟨rfl, hS5⟩
        refine ⟨_, rfl, ?_⟩
        have HS5 := Lib.hid hS5
        obtain ⟨P4, Y4, K4⟩ := HF1'.out _ (HI1'.out.pf _ _ hS5)
        refine hK.out _ _ ⟨cell_list K4 hk0, by rw [cell_at Y4]; rfl, cell_list P4.s rfl, cell_list P4.s rfl, cell_list P4.s rfl⟩ (fun hHeld => ?_)
        clear hK K_ hS5 P4 Y4 K4 HS4
        try simp only [zA, zS, zZ, Act.put, zP, zQ, zR]
        refine wpAnyF_take (i := 13) (v := ?_) rfl (by kernel_rfl) (by kernel_rfl) (by kernel_rfl) (fun _ _ _ h => h) (Or.inl ⟨by kernel_rfl, ?_⟩) (by assumption) ?_
        rotate_left
        · intro w hSw
          try dsimp only at hSw
          go_simp
          try with_reducible rfl
        simp only [zA, zS, zZ, Act.put, zP, zQ, zR]
        refine wpAnyF_take (i := 14) (v := ?_) rfl (by kernel_rfl) (by kernel_rfl) (by kernel_rfl) (fun _ _ _ h => h) (Or.inl ⟨by kernel_rfl, ?_⟩) (by assumption) ?_
        rotate_left
        · intro w hSw
          try dsimp only at hSw
          go_simp
          try with_reducible rfl
        simp only [zA, zS, zZ, Act.put, zP, zQ, zR]
        refine wpAnyF_take (i := 15) (v := ?_) rfl (by kernel_rfl) (by kernel_rfl) (by kernel_rfl) (fun _ _ _ h => h) (Or.inl ⟨by kernel_rfl, ?_⟩) (by assumption) ?_
        rotate_left
        · intro w hSw
          try dsimp only at hSw
          go_simp
          try with_reducible rfl
        simp only [zA, zS, zZ, Act.put, zP, zQ, zR]
        refine wpAnyF_take (i := 16) (v := ?_) rfl (by kernel_rfl) (by kernel_rfl) (by kernel_rfl) (fun _ _ _ h => h) (Or.inl ⟨by kernel_rfl, ?_⟩) (by assumption) ?_
        rotate_left
        · intro w hSw
          try dsimp only at hSw
          go_simp
          try with_reducible rfl
        simp only [zA, zS, zZ, Act.put, zP, zQ, zR]
        refine wpAnyF_take (i := 17) (v := ?_) rfl (by kernel_rfl) (by kernel_rfl) (by kernel_rfl) (fun _ _ _ h => h) (Or.inl ⟨by kernel_rfl, ?_⟩) (by assumption) ?_
        rotate_left
        · intro w hSw
          try dsimp only at hSw
          go_simp
          try with_reducible rfl
        simp only [zA, zS, zZ, Act.put, zP, zQ, zR]
        refine wpAnyF_take (i := 18) (v := ?_) rfl (by kernel_rfl) (by kernel_rfl) (by kernel_rfl) (fun _ _ _ h => h) (Or.inl ⟨by kernel_rfl, ?_⟩) (by assumption) ?_
        rotate_left
        · intro w hSw
          try dsimp only at hSw
          go_simp
          try with_reducible rfl
        simp only [zA, zS, zZ, Act.put, zP, zQ, zR]
        clear hHeld
        refine readyF (i := 19) rfl (by kernel_rfl) (by kernel_rfl) (fun K_ hK => ?_)
        refine wpInF_clo (.tmp 46) 89 #[.pointer (some ⟨yb, 0, none⟩)] [.tmp 48, .tmp 49] _ [.int .u32 s.locked.toNat, .int .i64 k] (by rfl) (by rfl) (by rfl) (enters Tryz.func89 (by kernel_rfl) rfl) (flag_s HI1'.out HFy'.out s.locked k (n0 + 3) X2 (by omega) HX3.out HS5.out) ?_
        rintro e X3 ⟨rfl, hS6⟩
        refine ⟨_, rfl, ?_⟩
        have HS6 := Lib.hid hS6
        obtain ⟨P4, Y4, K4⟩ := HF1'.out _ (HI1'.out.pf _ _ hS6)
        refine hK.out _ _ ⟨cell_list K4 hk0, by rw [cell_at Y4]; rfl, cell_list P4.s rfl, cell_list P4.s rfl, cell_list P4.s rfl⟩ (fun hHeld => ?_)
        clear hK K_ hS6 P4 Y4 K4 HS5
        try simp only [zA, zS, zZ, Act.put, zP, zQ, zR]
        refine wpAnyF_take (i := 20) (v := ?_) rfl (by kernel_rfl) (by kernel_rfl) (by kernel_rfl) (fun _ _ _ h => h) (Or.inl ⟨by kernel_rfl, ?_⟩) (by assumption) ?_
        rotate_left
        · intro w hSw
          try dsimp only at hSw
          go_simp
          try with_reducible rfl
        simp only [zA, zS, zZ, Act.put, zP, zQ, zR]
        refine wpAnyF_take (i := 21) (v := ?_) rfl (by kernel_rfl) (by kernel_rfl) (by kernel_rfl) (fun _ _ _ h => h) (Or.inl ⟨by kernel_rfl, ?_⟩) (by assumption) ?_
        rotate_left
        · intro w hSw
          try dsimp only at hSw
          go_simp
          try with_reducible rfl
        simp only [zA, zS, zZ, Act.put, zP, zQ, zR]
        refine wpAnyF_take (i := 22) (v := ?_) rfl (by kernel_rfl) (by kernel_rfl) (by kernel_rfl) (fun _ _ _ h => h) (Or.inl ⟨by kernel_rfl, ?_⟩) (by assumption) ?_
        rotate_left
        · intro w hSw
          try dsimp only at hSw
          go_simp
          try with_reducible rfl
        simp only [zA, zS, zZ, Act.put, zP, zQ, zR]
        clear hHeld
        refine wpAnyF_done (by kernel_rfl) ?_ _
        gi_wp2
        go_roundw
        case rel => exact ⟨k + 1, by omega, by go_num, Lib.hid (by rw [HLE.out]; exact HBK.out _ _ HS6.out)⟩
        case measure => simp [intOf]; omega
    · obtain rfl : k = m := by omega
      obtain ⟨pf, yw⟩ := HFF.out _ (HII.out.pf _ _ HS.out)
      have RL := range_of pf.l
      obtain ⟨m2, hm2⟩ : ∃ m, m = min nsig 12 := ⟨_, rfl⟩
      obtain ⟨n1, hn1⟩ : ∃ n, (secsF s kinds k).length = n := ⟨_, rfl⟩
      rw [hn1] at HS
      have HN1 : Hid ((secsF s kinds (min kinds.length 24)).length = n1) := Lib.hid (by rw [← HM.out]; exact hn1)
      have HM2 := Lib.hid hm2
      have hm12 : m2 ≤ 12 := by omega
      gi_wp2_with (first
        | refine wpListIn_load_g rfl 29 (.tmp 1) (by rfl) gl 0 (by rfl) L _ RL Tryz.underlying29 rfl szL ?_
        | fail)
      refine ⟨trivial, rfl, (callsIn_wide.2 (signals_c L kinds nsig clr st A c A1 c1 m2 wr hm2 hL.f)).mono ?_⟩
      rintro e W5 ⟨rfl, b5⟩
      replace HS := Lib.hid (HII.out.later _ _ _ HS.out b5)
      clear RL b5 pf yw hm2 hn1 hL hlt hk
      have hfl : Go.bits .andNot .u32 (s.flash.toNat : Int) (s.steady.toNat : Int) = ((flashM s).toNat : Int) := Bv.bits_andNot .u32 rfl s.flash s.steady
      obtain ⟨fm, hfm⟩ : ∃ fm, flashM s = fm := ⟨_, rfl⟩
      rw [hfm] at hfl
      have HFM := Lib.hid hfm
      clear hfm
      gi_wp2
      gi_loopw [57] (fun i wr => ∃ q : Nat, q ≤ m2 ∧ i = .int .i64 q ∧ Hid (St J O0 W1 (n1 + (sigsF s q).length) wr)) (fun i _ => m2 - (intOf i).toNat)
      case atStart => exact ⟨0, Nat.zero_le _, rfl, HS⟩
      case round =>
        clear HS
        obtain ⟨q, hq, rfl, HS⟩ := hrel
        by_cases hlq : q < m2
        · have i1 : (q : Int) < (m2 : Int) := by omega
          have i2 : (q : Int) < 32 := by omega
          obtain ⟨n2, hn2⟩ : ∃ n, n1 + (sigsF s q).length = n := ⟨_, rfl⟩
          rw [hn2] at HS
          have HN2 : Hid (n1 + (sigsF s (q + 1)).length = n2 + 3) := Lib.hid (by rw [sigsF_succ, List.length_append, ← hn2]; rfl)
          obtain ⟨lm, hlmv⟩ : ∃ z, lampN s.steady fm q = z := ⟨_, rfl⟩
          have hlm : lm ≤ 2 := by rw [← hlmv]; unfold lampN; split <;> (try split) <;> omega
          have HLM := Lib.hid hlmv
          have HX : Hid (xs[n2]? = some (bitN s.off q, 1) ∧ xs[n2 + 1]? = some (lm, 2) ∧ xs[n2 + 2]? = some (bitN s.autos q, 1)) := Lib.hid (by
            have e : sigF s q = [(bitN s.off q, 1), (lm, 2), (bitN s.autos q, 1)] := by unfold sigF; rw [HFM.out, hlmv]
            have g : ∀ j v, (sigF s q)[j]? = some v → xs[n2 + j]? = some v := fun j v hv => by
              have := HSIG.out q j v (by rw [← HM2.out]; exact hlq) hv
              rw [HN1.out, ← Nat.add_assoc, hn2] at this; exact this
            exact ⟨g 0 _ (by rw [e]; rfl), g 1 _ (by rw [e]; rfl), g 2 _ (by rw [e]; rfl)⟩)
          replace HS := Lib.hid (HII.out.later _ _ _ HS.out (Below.refl _ wr).drew)
          obtain ⟨P4, Y4⟩ := HFF.out _ (HII.out.pf _ _ HS.out)
          have HFy : Hid (∀ W, Keep (fun k => ¬ O0 k) W1 W → W.cell? ⟨yb, 0, none⟩ = some (.func (.yield l) #[] #[])) := Lib.hid (fun W hk => by rw [cell_at (HFF.out W hk).2]; rfl)
          clear hn2 hlmv
          gi_wp2
          refine wpIn_region_F (S := (fun w' => w'.cell? ⟨yb, 0, none⟩ = some (.func (.yield l) #[] #[]) ∧ w'.cell? ⟨gs, 5, none⟩ = some (.int .u32 s.off.toNat) ∧ w'.cell? ⟨gs, 6, none⟩ = some (.int .u32 s.steady.toNat) ∧ w'.cell? ⟨gs, 7, none⟩ = some (.int .u32 s.flash.toNat) ∧ w'.cell? ⟨gs, 8, none⟩ = some (.int .u32 s.autos.toNat))) (by kernel_rfl) ?_ (fun hHeld => ?_)
          · exact ⟨by rw [cell_at Y4]; rfl, cell_list P4.s rfl, cell_list P4.s rfl, cell_list P4.s rfl, cell_list P4.s rfl⟩
          generalize wr.drew = X at *
          clear P4 Y4
          refine wpAnyF_take (i := 0) (v := ?_) rfl (by kernel_rfl) (by kernel_rfl) (by kernel_rfl) (fun _ _ _ h => h) (Or.inl ⟨by kernel_rfl, ?_⟩) (by assumption) ?_
          rotate_left
          · intro w hSw
            try dsimp only at hSw
            go_simp
            try with_reducible rfl
          simp only [zA, zS, zZ, Act.put, zP, zQ, zR]
          refine wpAnyF_take (i := 1) (v := ?_) rfl (by kernel_rfl) (by kernel_rfl) (by kernel_rfl) (fun _ _ _ h => h) (Or.inl ⟨by kernel_rfl, ?_⟩) (by assumption) ?_
          rotate_left
          · intro w hSw
            try dsimp only at hSw
            go_simp
            try with_reducible rfl
          simp only [zA, zS, zZ, Act.put, zP, zQ, zR]
          refine wpAnyF_take (i := 2) (v := ?_) rfl (by kernel_rfl) (by kernel_rfl) (by kernel_rfl) (fun _ _ _ h => h) (Or.inl ⟨by kernel_rfl, ?_⟩) (by assumption) ?_
          rotate_left
          · intro w hSw
            try dsimp only at hSw
            go_simp
            try with_reducible rfl
          simp only [zA, zS, zZ, Act.put, zP, zQ, zR]
          refine wpAnyF_take (i := 3) (v := ?_) rfl (by kernel_rfl) (by kernel_rfl) (by kernel_rfl) (fun _ _ _ h => h) (Or.inl ⟨by kernel_rfl, ?_⟩) (by assumption) ?_
          rotate_left
          · intro w hSw
            try dsimp only at hSw
            go_simp
            try with_reducible rfl
          simp only [zA, zS, zZ, Act.put, zP, zQ, zR]
          clear hHeld
          refine readyF (i := 4) rfl (by kernel_rfl) (by kernel_rfl) (fun K_ hK => ?_)
          refine wpInF_clo (.tmp 60) 89 #[.pointer (some ⟨yb, 0, none⟩)] [.tmp 62, .tmp 63] _ [.int .u32 s.off.toNat, .int .i64 q] (by rfl) (by rfl) (by rfl) (enters Tryz.func89 (by kernel_rfl) rfl) (flag_s HII.out HFy.out s.off q n2 X (by omega) HX.out.1 HS.out) ?_
          rintro e X1 ⟨rfl, hS1⟩
          refine ⟨_, rfl, ?_⟩
          have HS1 := Lib.hid hS1
          obtain ⟨P4, Y4⟩ := HFF.out _ (HII.out.pf _ _ hS1)
          refine hK.out _ _ ⟨by rw [cell_at Y4]; rfl, cell_list P4.s rfl, cell_list P4.s rfl, cell_list P4.s rfl, cell_list P4.s rfl⟩ (fun hHeld => ?_)
          clear hK K_ hS1 P4 Y4 HS
          try simp only [zA, zS, zZ, Act.put, zP, zQ, zR]
          refine wpAnyF_take (i := 5) (v := ?_) rfl (by kernel_rfl) (by kernel_rfl) (by kernel_rfl) (fun _ _ _ h => h) (Or.inl ⟨by kernel_rfl, ?_⟩) (by assumption) ?_
          rotate_left
          · intro w hSw
            try dsimp only at hSw
            go_simp
            try with_reducible rfl
          simp only [zA, zS, zZ, Act.put, zP, zQ, zR]
          refine wpAnyF_take (i := 6) (v := ?_) rfl (by kernel_rfl) (by kernel_rfl) (by kernel_rfl) (fun _ _ _ h => h) (Or.inl ⟨by kernel_rfl, ?_⟩) (by assumption) ?_
          rotate_left
          · intro w hSw
            try dsimp only at hSw
            go_simp
            try with_reducible rfl
          simp only [zA, zS, zZ, Act.put, zP, zQ, zR]
          refine wpAnyF_take (i := 7) (v := ?_) rfl (by kernel_rfl) (by kernel_rfl) (by kernel_rfl) (fun _ _ _ h => h) (Or.inl ⟨by kernel_rfl, ?_⟩) (by assumption) ?_
          rotate_left
          · intro w hSw
            try dsimp only at hSw
            go_simp
            try with_reducible rfl
          simp only [zA, zS, zZ, Act.put, zP, zQ, zR]
          refine wpAnyF_take (i := 8) (v := ?_) rfl (by kernel_rfl) (by kernel_rfl) (by kernel_rfl) (fun _ _ _ h => h) (Or.inl ⟨by kernel_rfl, ?_⟩) (by assumption) ?_
          rotate_left
          · intro w hSw
            try dsimp only at hSw
            go_simp
            try with_reducible rfl
          simp only [zA, zS, zZ, Act.put, zP, zQ, zR]
          refine wpAnyF_take (i := 9) (v := ?_) rfl (by kernel_rfl) (by kernel_rfl) (by kernel_rfl) (fun _ _ _ h => h) (Or.inl ⟨by kernel_rfl, ?_⟩) (by assumption) ?_
          rotate_left
          · intro w hSw
            try dsimp only at hSw
            go_simp
            try with_reducible rfl
          simp only [zA, zS, zZ, Act.put, zP, zQ, zR]
          refine wpAnyF_take (i := 10) (v := ?_) rfl (by kernel_rfl) (by kernel_rfl) (by kernel_rfl) (fun _ _ _ h => h) (Or.inl ⟨by kernel_rfl, ?_⟩) (by assumption) ?_
          rotate_left
          · intro w hSw
            try dsimp only at hSw
            go_simp
            try with_reducible rfl
          simp only [zA, zS, zZ, Act.put, zP, zQ, zR]
          refine wpAnyF_take (i := 11) (v := ?_) rfl (by kernel_rfl) (by kernel_rfl) (by kernel_rfl) (fun _ _ _ h => h) (Or.inl ⟨by kernel_rfl, ?_⟩) (by assumption) ?_
          rotate_left
          · intro w hSw
            try dsimp only at hSw
            go_simp
            try with_reducible rfl
          simp only [zA, zS, zZ, Act.put, zP, zQ, zR]
          refine wpAnyF_take (i := 12) (v := ?_) rfl (by kernel_rfl) (by kernel_rfl) (by kernel_rfl) (fun _ _ _ h => h) (Or.inl ⟨by kernel_rfl, ?_⟩) (by assumption) ?_
          rotate_left
          · intro w hSw
            try dsimp only at hSw
            go_simp
            try with_reducible rfl
          simp only [zA, zS, zZ, Act.put, zP, zQ, zR]
          refine wpAnyF_take (i := 13) (v := ?_) rfl (by kernel_rfl) (by kernel_rfl) (by kernel_rfl) (fun _ _ _ h => h) (Or.inl ⟨by kernel_rfl, ?_⟩) (by assumption) ?_
          rotate_left
          · intro w hSw
            try dsimp only at hSw
            go_simp
            try with_reducible rfl
          simp only [zA, zS, zZ, Act.put, zP, zQ, zR]
          refine wpAnyF_take (i := 14) (v := ?_) rfl (by kernel_rfl) (by kernel_rfl) (by kernel_rfl) (fun _ _ _ h => h) (Or.inl ⟨by kernel_rfl, ?_⟩) (by assumption) ?_
          rotate_left
          · intro w hSw
            try dsimp only at hSw
            go_simp
            try with_reducible rfl
          simp only [zA, zS, zZ, Act.put, zP, zQ, zR]
          refine wpAnyF_take (i := 15) (v := ?_) rfl (by kernel_rfl) (by kernel_rfl) (by kernel_rfl) (fun _ _ _ h => h) (Or.inl ⟨by kernel_rfl, ?_⟩) (by assumption) ?_
          rotate_left
          · intro w hSw
            try dsimp only at hSw
            go_simp
            try with_reducible rfl
          simp only [zA, zS, zZ, Act.put, zP, zQ, zR]
          clear hHeld
          refine readyF (i := 16) rfl (by kernel_rfl) (by kernel_rfl) (fun K_ hK => ?_)
          refine wpInF_fn 90 [.tmp 69, .tmp 74, .tmp 75] _ [.int .u32 s.steady.toNat, .int .u32 fm.toNat, .int .i64 q] (by rfl) (by rfl) (enters Tryz.func90 (by kernel_rfl) rfl) (callsIn_wide.2 (lamp_c s.steady fm q lm X1 (by omega) (by rw [HLM.out]))) ?_
          rintro e X2 ⟨rfl, bF⟩
          refine ⟨_, rfl, ?_⟩
          replace HS1 := Lib.hid (HII.out.later _ _ _ HS1.out bF)
          obtain ⟨P4, Y4⟩ := HFF.out _ (HII.out.pf _ _ HS1.out)
          refine hK.out _ _ ⟨by rw [cell_at Y4]; rfl, cell_list P4.s rfl, cell_list P4.s rfl, cell_list P4.s rfl, cell_list P4.s rfl⟩ (fun hHeld => ?_)
          clear hK K_ bF P4 Y4
          try simp only [zA, zS, zZ, Act.put, zP, zQ, zR]
          refine wpAnyF_take (i := 17) (v := ?_) rfl (by kernel_rfl) (by kernel_rfl) (by kernel_rfl) (fun _ _ _ h => h) (Or.inl ⟨by kernel_rfl, ?_⟩) (by assumption) ?_
          rotate_left
          · intro w hSw
            try dsimp only at hSw
            go_simp
            try with_reducible rfl
          simp only [zA, zS, zZ, Act.put, zP, zQ, zR]
          clear hHeld
          refine readyF (i := 18) rfl (by kernel_rfl) (by kernel_rfl) (fun K_ hK => ?_)
          refine wpInF_yield (.tmp 67) l [.tmp 77] _ [fV (lm, 2)] (by rfl) (by rfl) (by rfl) (HII.out.step _ _ X2 HX.out.2.1 HS1.out) ?_
          rintro e X3 ⟨rfl, hS2⟩
          refine ⟨_, rfl, ?_⟩
          have HS2 := Lib.hid hS2
          obtain ⟨P4, Y4⟩ := HFF.out _ (HII.out.pf _ _ hS2)
          refine hK.out _ _ ⟨by rw [cell_at Y4]; rfl, cell_list P4.s rfl, cell_list P4.s rfl, cell_list P4.s rfl, cell_list P4.s rfl⟩ (fun hHeld => ?_)
          clear hK K_ hS2 P4 Y4 HS1
          try simp only [zA, zS, zZ, Act.put, zP, zQ, zR]
          refine wpAnyF_take (i := 19) (v := ?_) rfl (by kernel_rfl) (by kernel_rfl) (by kernel_rfl) (fun _ _ _ h => h) (Or.inl ⟨by kernel_rfl, ?_⟩) (by assumption) ?_
          rotate_left
          · intro w hSw
            try dsimp only at hSw
            go_simp
            try with_reducible rfl
          simp only [zA, zS, zZ, Act.put, zP, zQ, zR]
          refine wpAnyF_take (i := 20) (v := ?_) rfl (by kernel_rfl) (by kernel_rfl) (by kernel_rfl) (fun _ _ _ h => h) (Or.inl ⟨by kernel_rfl, ?_⟩) (by assumption) ?_
          rotate_left
          · intro w hSw
            try dsimp only at hSw
            go_simp
            try with_reducible rfl
          simp only [zA, zS, zZ, Act.put, zP, zQ, zR]
          refine wpAnyF_take (i := 21) (v := ?_) rfl (by kernel_rfl) (by kernel_rfl) (by kernel_rfl) (fun _ _ _ h => h) (Or.inl ⟨by kernel_rfl, ?_⟩) (by assumption) ?_
          rotate_left
          · intro w hSw
            try dsimp only at hSw
            go_simp
            try with_reducible rfl
          simp only [zA, zS, zZ, Act.put, zP, zQ, zR]
          refine wpAnyF_take (i := 22) (v := ?_) rfl (by kernel_rfl) (by kernel_rfl) (by kernel_rfl) (fun _ _ _ h => h) (Or.inl ⟨by kernel_rfl, ?_⟩) (by assumption) ?_
          rotate_left
          · intro w hSw
            try dsimp only at hSw
            go_simp
            try with_reducible rfl
          simp only [zA, zS, zZ, Act.put, zP, zQ, zR]
          refine wpAnyF_take (i := 23) (v := ?_) rfl (by kernel_rfl) (by kernel_rfl) (by kernel_rfl) (fun _ _ _ h => h) (Or.inl ⟨by kernel_rfl, ?_⟩) (by assumption) ?_
          rotate_left
          · intro w hSw
            try dsimp only at hSw
            go_simp
            try with_reducible rfl
          simp only [zA, zS, zZ, Act.put, zP, zQ, zR]
          refine wpAnyF_take (i := 24) (v := ?_) rfl (by kernel_rfl) (by kernel_rfl) (by kernel_rfl) (fun _ _ _ h => h) (Or.inl ⟨by kernel_rfl, ?_⟩) (by assumption) ?_
          rotate_left
          · intro w hSw
            try dsimp only at hSw
            go_simp
            try with_reducible rfl
          simp only [zA, zS, zZ, Act.put, zP, zQ, zR]
          refine wpAnyF_take (i := 25) (v := ?_) rfl (by kernel_rfl) (by kernel_rfl) (by kernel_rfl) (fun _ _ _ h => h) (Or.inl ⟨by kernel_rfl, ?_⟩) (by assumption) ?_
          rotate_left
          · intro w hSw
            try dsimp only at hSw
            go_simp
            try with_reducible rfl
          simp only [zA, zS, zZ, Act.put, zP, zQ, zR]
          clear hHeld
          refine readyF (i := 26) rfl (by kernel_rfl) (by kernel_rfl) (fun K_ hK => ?_)
          refine wpInF_clo (.tmp 82) 89 #[.pointer (some ⟨yb, 0, none⟩)] [.tmp 84, .tmp 85] _ [.int .u32 s.autos.toNat, .int .i64 q] (by rfl) (by rfl) (by rfl) (enters Tryz.func89 (by kernel_rfl) rfl) (flag_s HII.out HFy.out s.autos q (n2 + 2) X3 (by omega) HX.out.2.2 HS2.out) ?_
          rintro e X4 ⟨rfl, hS3⟩
          refine ⟨_, rfl, ?_⟩
          have HS3 := Lib.hid hS3
          obtain ⟨P4, Y4⟩ := HFF.out _ (HII.out.pf _ _ hS3)
          refine hK.out _ _ ⟨by rw [cell_at Y4]; rfl, cell_list P4.s rfl, cell_list P4.s rfl, cell_list P4.s rfl, cell_list P4.s rfl⟩ (fun hHeld => ?_)
          clear hK K_ hS3 P4 Y4 HS2
          try simp only [zA, zS, zZ, Act.put, zP, zQ, zR]
          refine wpAnyF_take (i := 27) (v := ?_) rfl (by kernel_rfl) (by kernel_rfl) (by kernel_rfl) (fun _ _ _ h => h) (Or.inl ⟨by kernel_rfl, ?_⟩) (by assumption) ?_
          rotate_left
          · intro w hSw
            try dsimp only at hSw
            go_simp
            try with_reducible rfl
          simp only [zA, zS, zZ, Act.put, zP, zQ, zR]
          refine wpAnyF_take (i := 28) (v := ?_) rfl (by kernel_rfl) (by kernel_rfl) (by kernel_rfl) (fun _ _ _ h => h) (Or.inl ⟨by kernel_rfl, ?_⟩) (by assumption) ?_
          rotate_left
          · intro w hSw
            try dsimp only at hSw
            go_simp
            try with_reducible rfl
          simp only [zA, zS, zZ, Act.put, zP, zQ, zR]
          clear hHeld
          refine wpAnyF_done (by kernel_rfl) ?_ _
          gi_wp2
          go_roundw
          case rel => exact ⟨q + 1, by omega, by go_num, Lib.hid (by rw [HN2.out]; exact HS3.out)⟩
          case measure => simp [intOf]; omega
        · obtain rfl : q = m2 := by omega
          obtain ⟨n3, hn3⟩ : ∃ n, n1 + (sigsF s q).length = n := ⟨_, rfl⟩
          rw [hn3] at HS
          have hg : ∀ j v, (endF s)[j]? = some v → xs[n3 + j]? = some v := fun j v hv => by
            have := HTL.out j v hv
            rw [HN1.out, ← HM2.out, hn3] at this; exact this
          have HLN : Hid (n3 + 1 + 1 + 1 = xs.length) := Lib.hid (by rw [HLEN.out, HN1.out, ← HM2.out, hn3])
          obtain ⟨pf, yw⟩ := HFF.out _ (HII.out.pf _ _ HS.out)
          have hw8 : IntKind.i64.wrap s.code = s.code := IntWalk.i64_in _ (by omega)
          obtain ⟨a0, ha0⟩ : ∃ a : Nat, min s.code 7 = (a : Int) := Int.eq_ofNat_of_zero_le (by omega)
          obtain ⟨mw, hmw⟩ : ∃ z, max s.waiting 0 = z := ⟨_, rfl⟩
          obtain ⟨a1, ha1⟩ : ∃ a : Nat, min mw 7 = (a : Int) := Int.eq_ofNat_of_zero_le (by omega)
          obtain ⟨me, hme⟩ : ∃ z, max s.errors 0 = z := ⟨_, rfl⟩
          obtain ⟨a2, ha2⟩ : ∃ a : Nat, Go.bits .and .i64 me 255 = (a : Int) := Int.eq_ofNat_of_zero_le (by rw [mask255]; omega)
          have HE : Hid (endF s = [(a0, 3), (a1, 3), (a2, 8)]) := Lib.hid (by
            unfold endF
            rw [ha0, hmw, ha1, hme, ← mask255, ha2]; rfl)
          have y1 : YieldAt Fence.wide 0 Tryz.prog l #[.agg #[.int .i64 (a0 : Int), .int .i64 3]] wr fun e W' => e = .returned (.bool true) ∧ St J O0 W1 (n3 + 1) W' := HII.out.step n3 (a0, 3) wr (hg 0 _ (by rw [HE.out]; rfl)) HS.out
          have HG := Lib.hid hg
          have x9 := cell_list pf.s (i := 9) rfl
          have yc := cell_at yw 0
          obtain ⟨fn, tmps, assign, body, hy, hR⟩ := y1
          clear hg hn3 HS pf yw hfl hlq hq
          gi_wp2
          refine ⟨rfl, hR.mono ?_⟩
          rintro e W6 ⟨rfl, hS⟩
          have HS := Lib.hid hS
          obtain ⟨pf, yw⟩ := HFF.out _ (HII.out.pf _ _ hS)
          have y1 : YieldAt Fence.wide 0 Tryz.prog l #[.agg #[.int .i64 (a1 : Int), .int .i64 3]] W6 fun e W' => e = .returned (.bool true) ∧ St J O0 W1 (n3 + 1 + 1) W' := HII.out.step (n3 + 1) (a1, 3) W6 (HG.out 1 _ (by rw [HE.out]; rfl)) HS.out
          clear hy hR hS x9 yc
          have x10 := cell_list pf.s (i := 10) rfl
          have yc := cell_at yw 0
          obtain ⟨fn, tmps, assign, body, hy, hR⟩ := y1
          clear pf yw HS
          gi_wp2
          refine ⟨rfl, hR.mono ?_⟩
          rintro e W7 ⟨rfl, hS⟩
          have HS := Lib.hid hS
          obtain ⟨pf, yw⟩ := HFF.out _ (HII.out.pf _ _ hS)
          have y1 : YieldAt Fence.wide 0 Tryz.prog l #[.agg #[.int .i64 (a2 : Int), .int .i64 8]] W7 fun e W' => e = .returned (.bool true) ∧ St J O0 W1 (n3 + 1 + 1 + 1) W' := HII.out.step (n3 + 1 + 1) (a2, 8) W7 (HG.out 2 _ (by rw [HE.out]; rfl)) HS.out
          clear hy hR hS x10 yc
          have x11 := cell_list pf.s (i := 11) rfl
          have yc := cell_at yw 0
          obtain ⟨fn, tmps, assign, body, hy, hR⟩ := y1
          clear pf yw HS
          gi_wp2
          refine ⟨rfl, hR.mono ?_⟩
          rintro e W8 ⟨rfl, hS⟩
          have HS := Lib.hid hS
          clear hy hR hS x11 yc
          gi_wp2
          go_end0
          exact ⟨⟨_, rfl⟩, HEND.out _ (by rw [← HLN.out]; exact HS.out)⟩
end Go.Proofs.YtppcdmbpbbjecaaGreat
