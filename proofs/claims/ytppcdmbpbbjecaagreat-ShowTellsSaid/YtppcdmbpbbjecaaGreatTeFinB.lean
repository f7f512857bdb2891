/- Shows taken and told by the document: contracts of its number, bit, two, Take, waits, held, Signals, Of. Nothing that was there is turned. -/
import Derived.Test.YtppcdmbpbbjecaaGreatTeFinA
import Derived.Deep.RegionHeld3
import Derived.Deep.CutRange
import Derived.Test.YtppcdmbpbbjecaaGreatHoFew
namespace Go.Proofs.YtppcdmbpbbjecaaGreat
open List renaming getElem_toArray → zA, getElem_cons_succ → zS, getElem_cons_zero → zZ, setIfInBounds_toArray → zP, set_cons_zero → zQ, set_cons_succ → zR
open Go.RowKit Rf Mem Bv AM SM Bits Str
attribute [local go_sem ↓] run_max2 run_min2
/-- a number that is read, or 0 where there are too few bits -/
def rdZ (l : List Bool) (a wd : Nat) : Nat := if a + wd ≤ l.length then rd l a wd else 0
theorem rdZ_lt (l : List Bool) (a wd : Nat) : rdZ l a wd < 2 ^ wd := by
  unfold rdZ
  split
  · exact rd_lt l a wd
  · exact Nat.two_pow_pos wd
def bbit (b : Bool) (i : Nat) : BitVec 32 := if b then BitVec.twoPow 32 i else 0#32
theorem shl_b (i : Nat) (hi : i < 32) (b : Bool) (r : Int) (hr : r = (b.toNat : Int)) : IntKind.u32.wrap (r * 2 ^ i) = ((bbit b i).toNat : Int) := by
  have hp : (2 : Nat) ^ i < 2 ^ 32 := Nat.pow_lt_pow_right (by omega) hi
  cases b with
  | false =>
    subst hr
    show IntKind.u32.wrap (0 * 2 ^ i) = 0
    rw [Int.zero_mul]; rfl
  | true =>
    subst hr
    simp only [bbit, if_true, BitVec.toNat_twoPow, Bool.toNat_true, Int.natCast_one, Int.one_mul, Nat.mod_eq_of_lt hp]
    rw [Bv.wrap_small .u32 rfl (Int.pow_nonneg (by omega)) (show (2 : Int) ^ i < (2 : Int) ^ 32 by exact_mod_cast hp)]
    simp
theorem shl_1 (i : Nat) (hi : i < 32) : IntKind.u32.wrap (2 ^ i) = ((bbit true i).toNat : Int) := by
  have h := shl_b i hi true 1 rfl
  rwa [Int.one_mul] at h
theorem or_bb (z : BitVec 32) (i : Nat) (b : Bool) : Go.bits .or .u32 (z.toNat : Int) ((bbit b i).toNat : Int) = ((orB z i b).toNat : Int) := by
  have h : Go.bits .or .u32 (z.toNat : Int) ((bbit b i).toNat : Int) = ((z ||| bbit b i).toNat : Int) := Bv.bits_or .u32 rfl z (bbit b i)
  rw [h]
  congr 2
  unfold orB bbit
  split <;> simp
theorem refTakeZ (v : Value) (B : List (BitVec 8)) (l : List Bool) (a wd : Nat) (N a' wd' : Int) (w : World) (hN : N = l.length) (ha : a' = (a : Int)) (hw : wd' = (wd : Int)) (hs : SliceAt w 1 v B.length (u8s B)) (hH : Bits.Holds B l) (hl : l.length ≤ 1000) (hk : a ≤ 1000) (hwd : wd ≤ 32) :
    Calls Tryz.prog 73 #[Bt.bv v N, .int .i64 a', .int .i64 wd'] w fun e w' => Below w.heap.size w w' ∧ ∃ er : Int, e = .returned (.tuple #[.int .i64 (rdZ l a wd : Nat), .int .i64 er]) := by
  by_cases h : a + wd ≤ l.length
  · refine (Bt.refTake_g v B l a wd N a' wd' _ w hN ha hw rfl hs hH (by omega) hwd h).mono ?_
    rintro e w' ⟨b, rfl⟩
    exact ⟨b, 0, by rw [rdZ, if_pos h]; rfl⟩
  · refine (Bt.refTake_short v B N a' wd' w hs (by omega) (by omega) (Bt.right_yes hH hN).symm (by omega) (by omega) (by omega) (by omega)).mono ?_
    rintro e w' ⟨b, rfl⟩
    exact ⟨b, 40, by rw [rdZ, if_neg h]; rfl⟩
/-- a reader -/
structure RdA (gr : Nat) (W : World) (v : Value) (B : List (BitVec 8)) (l : List Bool) (N : Int) (a : Nat) : Prop where
  x : W.heap[gr]? = some (.cells #[v, .int .i64 N, .int .i64 (a : Int)] 100 (0, 0))
  n : N = (l.length : Int)
  sl : SliceAt W 1 v B.length (u8s B)
  h : Bits.Holds B l
set_option maxHeartbeats 2000000 in
set_option maxRecDepth 100000 in
theorem number28_c (gr : Nat) (v : Value) (B : List (BitVec 8)) (l : List Bool) (N : Int) (a wd : Nat) (wd' : Int) (w : World) (hw : wd' = (wd : Int)) (h : RdA gr w v B l N a) (hl : l.length ≤ 1000) (hk : a ≤ 900) (hwd : wd ≤ 32) :
    Calls Tryz.prog 31 #[.pointer (some ⟨gr, 0, none⟩), .int .i64 wd'] w fun e w' => (∃ W2, Below w.heap.size w W2 ∧ w' = W2.setCell ⟨gr, 2, none⟩ (.int .i64 ((a + wd : Nat) : Int))) ∧ e = .returned (.int .i64 (rdZ l a wd : Nat)) := by
  obtain ⟨A, c, rfl, _⟩ := h.sl.form
  have CT := Lib.hid (fun (W : World) (b : Below w.heap.size w W) => refTakeZ (.slice A B.length c) B l a wd N (a : Int) wd' W h.n rfl hw (h.sl.later b) h.h hl (by omega) hwd)
  have HX := Lib.hid h.x
  have blt := lt_at h.x
  obtain ⟨z, hz⟩ : ∃ z : Int, z = ((a : Nat) : Int) + wd' := ⟨_, rfl⟩
  have hz2 : z = ((a + wd : Nat) : Int) := by omega
  have hz3 : wrap64 ((a : Int) + wd') = z := by unfold wrap64; omega
  obtain ⟨r, hr⟩ : ∃ r : Int, r = ((rdZ l a wd : Nat) : Int) := ⟨_, rfl⟩
  rw [← hr]
  rw [← hr] at CT
  rw [← hz2]
  have HZ := Lib.hid hz2
  clear h hz hz2 hr
  obtain ⟨ai, hai⟩ : ∃ ai : Int, ((a : Nat) : Int) = ai := ⟨_, rfl⟩
  rw [hai] at CT HX hz3
  have hb1 : -9223372036854775808 ≤ ai + wd' ∧ ai + wd' ≤ 9223372036854775807 := by omega
  have hz4 : ai + wd' = z := by have e := hz3; unfold wrap64 at e; omega
  have szB2 : (Tryz.prog.info? 84).map (·.size) = some ([.slice A B.length c, .int .i64 N] : List Value).length := by kernel_rfl
  clear hai hw
  go_enter Tryz.func31, Tryz.ntmps31
  go_upto_region 1 with (fail)
  refine wp_region_held_drew (S := (fun w' => w'.rangeAt gr 0 [.slice A B.length c, .int .i64 N] ∧ w'.cell? ⟨gr, 2, none⟩ = some (.int .i64 ai))) (by kernel_rfl) ?_ (fun hHeld => ?_)
  · refine ⟨fun j u hj => ?_, cell_at HX.out 2⟩
    match j, hj with
    | 0, hj => cases hj; exact cell_at HX.out 0
    | 1, hj => cases hj; exact cell_at HX.out 1
    | j + 2, hj => exact absurd hj (by simp)
  have Bb : Below w.heap.size w w.drew := (Below.refl _ w).drew
  generalize w.drew = V at *
  refine Node.tk 0 ?_ rfl ?_ ?_
  rotate_left
  · intro w hSw; (try dsimp only at hSw); go_simp; try with_reducible rfl
  simp only [zA, zS, zZ, Act.put, zP, zQ, zR]
  refine Node.tk 1 ?_ rfl ?_ ?_
  rotate_left
  · intro w hSw; (try dsimp only at hSw); go_simp; try with_reducible rfl
  simp only [zA, zS, zZ, Act.put, zP, zQ, zR]
  refine Node.tk 2 ?_ rfl ?_ ?_
  rotate_left
  · intro w hSw; (try dsimp only at hSw); go_simp; try with_reducible rfl
  simp only [zA, zS, zZ, Act.put, zP, zQ, zR]
  refine wpAnyH_take (i := 3) (v := .agg ([.slice A B.length c, .int .i64 N] : List Value).toArray) rfl (by kernel_rfl) (by kernel_rfl) (by kernel_rfl) (fun _ _ _ h => h) (yieldsIf_load_mid (by kernel_rfl) 84 (.tmp 10) (by kernel_rfl) (gr) 0 (by kernel_rfl) [.slice A B.length c, .int .i64 N] _ (fun w' h => h.1) (by first | exact Tryz.underlying84) rfl (by first | assumption | (simp only [*]; kernel_rfl))) (by assumption) ?_
  try simp only [zA, zS, zZ, Act.put, zP, zQ, zR]
  refine Node.tk 4 ?_ rfl ?_ ?_
  rotate_left
  · intro w hSw; (try dsimp only at hSw); go_simp; try with_reducible rfl
  simp only [zA, zS, zZ, Act.put, zP, zQ, zR]
  refine Node.tk 5 ?_ rfl ?_ ?_
  rotate_left
  · intro w hSw; (try dsimp only at hSw); go_simp; try with_reducible rfl
  simp only [zA, zS, zZ, Act.put, zP, zQ, zR]
  refine Node.tk 6 ?_ rfl ?_ ?_
  rotate_left
  · intro w hSw; (try dsimp only at hSw); go_simp; try with_reducible rfl
  simp only [zA, zS, zZ, Act.put, zP, zQ, zR]
  refine Node.tk 7 ?_ rfl ?_ ?_
  rotate_left
  · intro w hSw; (try dsimp only at hSw); go_simp; try with_reducible rfl
  simp only [zA, zS, zZ, Act.put, zP, zQ, zR]
  refine Node.tk 8 ?_ rfl ?_ ?_
  rotate_left
  · intro w hSw; (try dsimp only at hSw); go_simp; try with_reducible rfl
  simp only [zA, zS, zZ, Act.put, zP, zQ, zR]
  clear hHeld
  refine ready1 (i := 9) rfl (by kernel_rfl) (by kernel_rfl) (fun K hK => ?_)
  refine Node.wp_fn 73 [.tmp 11, .tmp 15, .tmp 16] _ [Bt.bv (.slice A B.length c) N, .int .i64 ai, .int .i64 wd'] (by rfl) (by kernel_rfl) (enters Tryz.func73 (by kernel_rfl) rfl) (CT.out _ Bb) ?_
  rintro e V2 ⟨b, er, rfl⟩
  refine ⟨_, rfl, ?_⟩
  replace Bb := below_step Bb b
  have X2 := var_later HX.out Bb
  clear b
  refine hK.out _ _ ⟨fun j u hj => by
    match j, hj with
    | 0, hj => cases hj; exact cell_at X2 0
    | 1, hj => cases hj; exact cell_at X2 1
    | j + 2, hj => exact absurd hj (by simp), cell_at X2 2⟩ (fun hHeld => ?_)
  clear hK K
  try simp only [zA, zS, zZ, Act.put, zP, zQ, zR]
  refine Node.tk 10 ?_ rfl ?_ ?_
  rotate_left
  · intro w hSw; (try dsimp only at hSw); go_simp; try with_reducible rfl
  simp only [zA, zS, zZ, Act.put, zP, zQ, zR]
  refine Node.tk 11 ?_ rfl ?_ ?_
  rotate_left
  · intro w hSw; (try dsimp only at hSw); go_simp; try with_reducible rfl
  simp only [zA, zS, zZ, Act.put, zP, zQ, zR]
  refine Node.tk 12 ?_ rfl ?_ ?_
  rotate_left
  · intro w hSw; (try dsimp only at hSw); go_simp; try with_reducible rfl
  simp only [zA, zS, zZ, Act.put, zP, zQ, zR]
  refine Node.tk 13 ?_ rfl ?_ ?_
  rotate_left
  · intro w hSw; (try dsimp only at hSw); go_simp; try with_reducible rfl
  simp only [zA, zS, zZ, Act.put, zP, zQ, zR]
  refine Node.tk 14 ?_ rfl ?_ ?_
  rotate_left
  · intro w hSw; (try dsimp only at hSw); go_simp; try with_reducible rfl
  simp only [zA, zS, zZ, Act.put, zP, zQ, zR]
  clear hHeld
  refine wpAnyH_done (by kernel_rfl) ?_ _
  have y2 := cell_at X2 2
  have f2 := free_at X2 2
  clear X2 CT
  go_wp2
  go_ret
  exact ⟨⟨V2, Bb, rfl⟩, rfl⟩
theorem b_of1 {n : Nat} (h : n < 2 ^ 1) : (n : Int) = (((n == 1) : Bool).toNat : Int) := by
  have : n = 0 ∨ n = 1 := by omega
  rcases this with rfl | rfl <;> rfl
set_option maxHeartbeats 1000000 in
set_option maxRecDepth 100000 in
theorem rbit28_c (gr : Nat) (v : Value) (B : List (BitVec 8)) (l : List Bool) (N : Int) (a i : Nat) (w : World) (hi : i < 32) (h : RdA gr w v B l N a) (hl : l.length ≤ 1000) (hk : a ≤ 900) :
    Calls Tryz.prog 28 #[.pointer (some ⟨gr, 0, none⟩), .int .i64 i] w fun e w' => (∃ W2, Below w.heap.size w W2 ∧ w' = W2.setCell ⟨gr, 2, none⟩ (.int .i64 ((a + 1 : Nat) : Int))) ∧ e = .returned (.int .u32 (bbit (rdZ l a 1 == 1) i).toNat) := by
  have CN := Lib.hid (number28_c gr v B l N a 1 1 w rfl h hl hk (by omega))
  have hu : IntKind.u64.wrap (i : Int) = (i : Int) := IntWalk.u64_in _ (by omega)
  have hb := b_of1 (rdZ_lt l a 1)
  obtain ⟨r, hr⟩ : ∃ r : Int, ((rdZ l a 1 : Nat) : Int) = r := ⟨_, rfl⟩
  obtain ⟨bb, hbb⟩ : ∃ b, (rdZ l a 1 == 1) = b := ⟨_, rfl⟩
  rw [hr] at hb CN
  rw [hbb] at hb
  rw [hbb]
  have hsh := shl_b i hi bb r hb
  have hru : IntKind.u32.wrap r = r := Bv.wrap_small .u32 rfl (by rw [hb]; omega) (show r < (2 : Int) ^ 32 by rw [hb]; cases bb <;> decide)
  have hmn : min i 32 = i := by omega
  clear hb hbb hr h
  go_enter Tryz.func28, Tryz.ntmps28
  go_wp2_with fail
  refine CN.out.mono ?_
  rintro e W2 ⟨HW, rfl⟩
  have HW2 := Lib.hid HW
  clear HW CN
  go_wp2
  go_ret
  exact ⟨HW2.out, rfl⟩
set_option maxHeartbeats 1000000 in
set_option maxRecDepth 100000 in
theorem two28_c (gr : Nat) (v : Value) (B : List (BitVec 8)) (l : List Bool) (N : Int) (a i : Nat) (w : World) (hi : i < 32) (h : RdA gr w v B l N a) (hl : l.length ≤ 1000) (hk : a ≤ 900) :
    Calls Tryz.prog 29 #[.pointer (some ⟨gr, 0, none⟩), .int .i64 i] w fun e w' => (∃ W2, Below w.heap.size w W2 ∧ w' = W2.setCell ⟨gr, 2, none⟩ (.int .i64 ((a + 2 : Nat) : Int))) ∧ e = .returned (.tuple #[.int .u32 (bbit (rdZ l a 2 == 1) i).toNat, .int .u32 (bbit (rdZ l a 2 == 2) i).toNat]) := by
  have CN := Lib.hid (number28_c gr v B l N a 2 2 w rfl h hl hk (by omega))
  have hu : IntKind.u64.wrap (i : Int) = (i : Int) := IntWalk.u64_in _ (by omega)
  obtain ⟨n, hn⟩ : ∃ n : Nat, rdZ l a 2 = n := ⟨_, rfl⟩
  rw [hn] at CN ⊢
  have hsh := shl_1 i hi
  have hmn : min i 32 = i := by omega
  have h0 : ((bbit false i).toNat : Int) = 0 := rfl
  clear hn h
  by_cases h1 : n = 1
  · subst h1
    go_enter Tryz.func29, Tryz.ntmps29
    go_wp2_with fail
    refine CN.out.mono ?_
    rintro e W2 ⟨HW, rfl⟩
    have HW2 := Lib.hid HW
    clear HW CN
    go_wp2
    refine bodyPost_ret (results_tmp2 rfl _ _ _) rfl ?_
    exact ⟨HW2.out, rfl⟩
  by_cases h2 : n = 2
  · subst h2
    clear h1
    go_enter Tryz.func29, Tryz.ntmps29
    go_wp2_with fail
    refine CN.out.mono ?_
    rintro e W2 ⟨HW, rfl⟩
    have HW2 := Lib.hid HW
    clear HW CN
    go_wp2
    refine bodyPost_ret (results_tmp2 rfl _ _ _) rfl ?_
    exact ⟨HW2.out, rfl⟩
  · have d1 : ((n : Int) == 1) = false := by simp; omega
    have d2 : ((n : Int) == 2) = false := by simp; omega
    have e1 : (n == 1) = false := by simpa using h1
    have e2 : (n == 2) = false := by simpa using h2
    rw [e1, e2]
    clear h1 h2 e1 e2
    go_enter Tryz.func29, Tryz.ntmps29
    go_wp2_with fail
    refine CN.out.mono ?_
    rintro e W2 ⟨HW, rfl⟩
    have HW2 := Lib.hid HW
    clear HW CN
    go_wp2
    refine bodyPost_ret (results_tmp2 rfl _ _ _) rfl ?_
    exact ⟨HW2.out, rfl⟩
end Go.Proofs.YtppcdmbpbbjecaaGreat
namespace Go.Proofs.YtppcdmbpbbjecaaGreat
open List renaming getElem_toArray → zA, getElem_cons_succ → zS, getElem_cons_zero → zZ, setIfInBounds_toArray → zP, set_cons_zero → zQ, set_cons_succ → zR
open Go.RowKit Rf Mem Bv AM SM Bits Str
attribute [local go_sem ↓] run_max2 run_min2
/-- one section's numbers, read by any reader -/
def gSec (f : Nat → Nat → Nat) (kinds : List Int) (i : Nat) (p : TSt) : TSt :=
  if kinds.getD i 0 == 2 then
    ({ p.1 with clear := orB p.1.clear i (f p.2 1 == 1), held := orB p.1.held i (f (p.2 + 1) 1 == 1), normal := orB p.1.normal i (f (p.2 + 1 + 1) 2 == 1), reverse := orB p.1.reverse i (f (p.2 + 1 + 1) 2 == 2), locked := orB p.1.locked i (f (p.2 + 1 + 1 + 2) 1 == 1) }, p.2 + 1 + 1 + 2 + 1)
  else ({ p.1 with clear := orB p.1.clear i (f p.2 1 == 1), held := orB p.1.held i (f (p.2 + 1) 1 == 1) }, p.2 + 1 + 1)
def gSecs (f : Nat → Nat → Nat) (kinds : List Int) : Nat → TSt
  | 0 => (s0, 0)
  | n + 1 => gSec f kinds n (gSecs f kinds n)
def gSig (f : Nat → Nat → Nat) (i : Nat) (p : TSt) : TSt :=
  ({ p.1 with off := orB p.1.off i (f p.2 1 == 1), steady := orB p.1.steady i (f (p.2 + 1) 2 == 1), flash := orB p.1.flash i (f (p.2 + 1) 2 == 2), autos := orB p.1.autos i (f (p.2 + 1 + 2) 1 == 1) }, p.2 + 1 + 2 + 1)
def gSigs (f : Nat → Nat → Nat) (p : TSt) : Nat → TSt
  | 0 => p
  | n + 1 => gSig f n (gSigs f p n)
def gEnd (f : Nat → Nat → Nat) (p : TSt) : ShowM := { p.1 with code := (f p.2 3 : Int), waiting := (f (p.2 + 3) 3 : Int), errors := (f (p.2 + 3 + 3) 8 : Int) }
def gDec (f : Nat → Nat → Nat) (kinds : List Int) (nsig : Nat) : ShowM := gEnd f (gSigs f (gSecs f kinds (min kinds.length 24)) (min nsig 12))
theorem gSec_np {f : Nat → Nat → Nat} {kinds : List Int} {i : Nat} (h : (kinds.getD i 0 == 2) = false) (d : ShowM) (a : Nat) : gSec f kinds i (d, a) = ({ d with clear := orB d.clear i (f a 1 == 1), held := orB d.held i (f (a + 1) 1 == 1) }, a + 1 + 1) := by unfold gSec; rw [h]; rfl
theorem gSec_p {f : Nat → Nat → Nat} {kinds : List Int} {i : Nat} (h : (kinds.getD i 0 == 2) = true) (d : ShowM) (a : Nat) : gSec f kinds i (d, a) = ({ d with clear := orB d.clear i (f a 1 == 1), held := orB d.held i (f (a + 1) 1 == 1), normal := orB d.normal i (f (a + 1 + 1) 2 == 1), reverse := orB d.reverse i (f (a + 1 + 1) 2 == 2), locked := orB d.locked i (f (a + 1 + 1 + 2) 1 == 1) }, a + 1 + 1 + 2 + 1) := by unfold gSec; rw [h]; rfl
theorem gSecs_pos (f : Nat → Nat → Nat) (kinds : List Int) : ∀ n, (gSecs f kinds n).2 ≤ 5 * n
  | 0 => Nat.le_refl _
  | n + 1 => by
    have h := gSecs_pos f kinds n
    show (gSec f kinds n (gSecs f kinds n)).2 ≤ _
    unfold gSec
    split <;> simp only <;> omega
theorem gSigs_pos (f : Nat → Nat → Nat) (p : TSt) : ∀ n, (gSigs f p n).2 = p.2 + 4 * n
  | 0 => rfl
  | n + 1 => by
    have h := gSigs_pos f p n
    show (gSigs f p n).2 + 1 + 2 + 1 = _
    omega
section
variable {f : Nat → Nat → Nat} {l : List Bool} {T : Nat} (hf : ∀ a wd, a + wd ≤ T → f a wd = rd l a wd)
include hf
theorem gSecs_eq (kinds : List Int) : ∀ n, (dSecs l kinds n).2 ≤ T → gSecs f kinds n = dSecs l kinds n
  | 0, _ => rfl
  | n + 1, h => by
    have hp := dSec_pos l kinds n (dSecs l kinds n)
    have e : (dSecs l kinds (n + 1)).2 = (dSecs l kinds n).2 + if kinds.getD n 0 == 2 then 5 else 2 := hp
    rw [e] at h
    have ih := gSecs_eq kinds n (by split at h <;> omega)
    show gSec f kinds n (gSecs f kinds n) = dSec l kinds n (dSecs l kinds n)
    rw [ih]
    generalize dSecs l kinds n = p at h ⊢
    unfold gSec dSec
    by_cases hk : (kinds.getD n 0 == 2) = true
    · rw [if_pos hk] at h
      rw [if_pos hk, if_pos hk, hf p.2 1 (by omega), hf (p.2 + 1) 1 (by omega), hf (p.2 + 1 + 1) 2 (by omega), hf (p.2 + 1 + 1 + 2) 1 (by omega)]
    · rw [if_neg hk] at h
      rw [if_neg hk, if_neg hk, hf p.2 1 (by omega), hf (p.2 + 1) 1 (by omega)]
theorem gSigs_eq (p : TSt) : ∀ n, (dSigs l p n).2 ≤ T → gSigs f p n = dSigs l p n
  | 0, _ => rfl
  | n + 1, h => by
    have e : (dSigs l p (n + 1)).2 = (dSigs l p n).2 + 1 + 2 + 1 := rfl
    rw [e] at h
    have ih := gSigs_eq p n (by omega)
    show gSig f n (gSigs f p n) = dSig l n (dSigs l p n)
    rw [ih]
    generalize dSigs l p n = q at h ⊢
    unfold gSig dSig
    rw [hf q.2 1 (by omega), hf (q.2 + 1) 2 (by omega), hf (q.2 + 1 + 2) 1 (by omega)]
theorem gDec_eq (kinds : List Int) (nsig : Nat) (h : sumW (flds s0 kinds nsig) ≤ T) : gDec f kinds nsig = dec l kinds nsig := by
  rw [flds_w s0 l] at h
  have e1 := gSecs_eq hf kinds (min kinds.length 24) (by omega)
  have hp := dSigs_pos l (dSecs l kinds (min kinds.length 24)) (min nsig 12)
  have e2 := gSigs_eq hf (dSecs l kinds (min kinds.length 24)) (min nsig 12) (by omega)
  unfold gDec dec
  rw [e1, e2]
  generalize dSigs l (dSecs l kinds (min kinds.length 24)) (min nsig 12) = q at hp ⊢
  unfold gEnd dEnd
  rw [hf q.2 3 (by omega), hf (q.2 + 3) 3 (by omega), hf (q.2 + 3 + 3) 8 (by omega)]
end
theorem holds_bitsOf (B : List (BitVec 8)) : Bits.Holds B (bitsOf B) := ⟨by rw [bitsOf_length]; omega, 0, by simp⟩
/-- what the document's Take tells -/
theorem takeZ {pl B2 : List (BitVec 8)} {kinds : List Int} {nsig : Nat} (hB : Bits.Holds B2 (fbits (flds (gDec (rdZ (bitsOf pl)) kinds nsig) kinds nsig))) :
    (B2 = pl → TakeR pl kinds nsig (gDec (rdZ (bitsOf pl)) kinds nsig) 0) ∧ (B2 ≠ pl → TakeR pl kinds nsig s0 41) := by
  have key : pl.length = (sumW (flds s0 kinds nsig) + 7) / 8 → gDec (rdZ (bitsOf pl)) kinds nsig = dec (bitsOf pl) kinds nsig := fun h => by
    refine gDec_eq (T := (bitsOf pl).length) (fun a wd hle => by rw [rdZ, if_pos hle]) kinds nsig ?_
    rw [bitsOf_length]; omega
  constructor
  · rintro rfl
    have hl := put_len hB
    have e := key hl
    exact .inl ⟨hl, by rw [← e]; exact hB, e, rfl⟩
  · intro hne
    refine .inr ⟨fun ⟨h1, h2⟩ => hne ?_, rfl, rfl⟩
    rw [← key h1] at h2
    exact holds_unique hB h2
/-- what Take carries: a reader, a show -/
structure TD (W1 W : World) (v : Value) (N : Int) (a : Nat) (d : ShowM) : Prop where
  b : Below W1.heap.size W1 W
  r : W.heap[W1.heap.size]? = some (.cells #[v, .int .i64 N, .int .i64 (a : Int)] 100 (0, 0))
  s : W.heap[W1.heap.size + 1]? = some (.cells (showL d).toArray 52 (0, 0))
theorem TD.later {W1 W W' : World} {v : Value} {N : Int} {a : Nat} {d : ShowM} (h : TD W1 W v N a d) (b : Below W.heap.size W W') : TD W1 W' v N a d := ⟨below_step h.b b, var_later h.r b, var_later h.s b⟩
theorem TD.num {W1 W W2 : World} {v : Value} {N : Int} {a a' : Nat} {d : ShowM} (h : TD W1 W v N a d) (b : Below W.heap.size W W2) : TD W1 (W2.setCell ⟨W1.heap.size, 2, none⟩ (.int .i64 (a' : Int))) v N a' d :=
  ⟨below_set (below_step h.b b) (Nat.le_refl _) _ _, by rw [set_at (var_later h.r b) 2]; simp, set_far (var_later h.s b) (by simp) _⟩
theorem TD.set {W1 W : World} {v : Value} {N : Int} {a : Nat} {d d' : ShowM} (h : TD W1 W v N a d) (o : Nat) (u : Value) (e : (showL d).set o u = showL d') : TD W1 (W.setCell ⟨W1.heap.size + 1, o, none⟩ u) v N a d' :=
  ⟨below_set h.b (by omega) _ _, set_far h.r (by simp) _, by rw [set_at h.s o, List.setIfInBounds_toArray, e]⟩
theorem TD.rda {W1 W : World} {v : Value} {N : Int} {a : Nat} {d : ShowM} {B : List (BitVec 8)} {l : List Bool} (h : TD W1 W v N a d) (hn : N = (l.length : Int)) (hs : SliceAt W1 1 v B.length (u8s B)) (hH : Bits.Holds B l) : RdA W1.heap.size W v B l N a := ⟨h.r, hn, hs.later h.b, hH⟩
set_option maxHeartbeats 16000000 in
set_option maxRecDepth 100000 in
theorem refTake28_c (L : List Value) (kinds : List Int) (ss : List (List Value)) (nsig : Nat) (clr st : Int) (A : Option Addr) (c : Nat) (A1 : Option Addr) (c1 : Nat) (u : Value) (pl : List (BitVec 8)) (w : World) (hL : LY w L kinds ss nsig clr st A c A1 c1) (hs : SliceAt w 1 u pl.length (u8s pl)) (hpl : pl.length ≤ 100) :
    Calls Tryz.prog 9 #[.agg L.toArray, u] w fun e w' => Below w.heap.size w w' ∧ ∃ r err, e = .returned (.tuple #[.agg (showL r).toArray, .int .i64 err]) ∧ TakeR pl kinds nsig r err := by
  have szL := lay_size hL.f.len
  obtain ⟨zs, hzi, hzs⟩ := show_zero
  obtain ⟨zc, hzc⟩ : ∃ zc, zs.cells = zc := ⟨_, rfl⟩
  rw [hzc] at hzs
  obtain ⟨W0, hW0⟩ : ∃ W0, (w.alloc (.cells L.toArray 29)).alloc (.cells (showL s0).toArray 52) = W0 := ⟨_, rfl⟩
  have B0 : Below w.heap.size w W0 := by rw [← hW0]; exact below_step (below_new _ _) (below_new _ _)
  have VL : W0.heap[w.heap.size]? = some (.cells L.toArray 29 (0, 0)) := by rw [← hW0]; exact old_at (new_at rfl _) _
  have VR : W0.heap[w.heap.size + 1]? = some (.cells (showL s0).toArray 52 (0, 0)) := by rw [← hW0]; exact new_at (by simp) _
  rw [show showL s0 = [.int .u32 0, .int .u32 0, .int .u32 0, .int .u32 0, .int .u32 0, .int .u32 0, .int .u32 0, .int .u32 0, .int .u32 0, .int .u8 0, .int .i64 0, .int .i64 0] from rfl] at hW0
  have HU := Lib.hid (hs.later B0)
  have HL0 := Lib.hid (hL.later B0)
  obtain ⟨Au, cu, rfl, _⟩ := hs.form
  clear hL hs
  go_enter Tryz.func9, Tryz.ntmps9
  go_upto_region 1 with (fail)
  generalize (w.alloc (.cells L.toArray 29)).alloc (.cells #[.int .u32 0, .int .u32 0, .int .u32 0, .int .u32 0, .int .u32 0, .int .u32 0, .int .u32 0, .int .u32 0, .int .u32 0, .int .u8 0, .int .i64 0, .int .i64 0] 52) = W0' at *
  subst hW0
  go_wp2_with fail
  refine (Bt.refOf_c (.slice Au pl.length cu) pl ((pl.length : Int) * 8) _ rfl HU.out (by omega)).mono ?_
  rintro e W1 ⟨b1, Av, cv, rfl, sv⟩
  obtain ⟨N, hN⟩ : ∃ N : Int, (pl.length : Int) * 8 = N := ⟨_, rfl⟩
  obtain ⟨l, hl⟩ : ∃ l, bitsOf pl = l := ⟨_, rfl⟩
  have hNl : N = (l.length : Int) := by rw [← hN, ← hl, bitsOf_length]; omega
  have hll : l.length ≤ 1000 := by rw [← hl, bitsOf_length]; omega
  have hH : Bits.Holds pl l := by rw [← hl]; exact holds_bitsOf pl
  rw [hN]
  have HB1 := Lib.hid (below_step B0 b1)
  have VL1 := var_later VL b1
  have VR1 := var_later VR b1
  have HL1 := Lib.hid (HL0.out.later b1)
  have HU1 := Lib.hid (HU.out.later b1)
  have HSV := Lib.hid sv
  have HNL := Lib.hid hNl
  have HLL := Lib.hid hll
  have HHH := Lib.hid hH
  have HLB := Lib.hid hl
  have wlt : w.heap.size + 1 < W1.heap.size := lt_at VR1
  clear sv hNl hH hl hN hll VL VR b1 B0 HU HL0
  obtain ⟨V, hV⟩ : ∃ V, (W1.alloc (.cells #[.slice Av pl.length cv, .int .i64 N, .int .i64 0] 100)).alloc (.cells (showL s0).toArray 52) = V := ⟨_, rfl⟩
  have T0 : TD W1 V (.slice Av pl.length cv) N 0 s0 := ⟨by rw [← hV]; exact below_step (below_new _ _) (below_new _ _), by rw [← hV]; exact old_at (new_at rfl _) _, by rw [← hV]; exact new_at (by simp) _⟩
  rw [show showL s0 = [.int .u32 0, .int .u32 0, .int .u32 0, .int .u32 0, .int .u32 0, .int .u32 0, .int .u32 0, .int .u32 0, .int .u32 0, .int .u8 0, .int .i64 0, .int .i64 0] from rfl] at hV
  obtain ⟨m1, hm1⟩ : ∃ m, min kinds.length 24 = m := ⟨_, rfl⟩
  obtain ⟨m2, hm2⟩ : ∃ m, min nsig 12 = m := ⟨_, rfl⟩
  have hm24 : m1 ≤ 24 := by omega
  have hm12 : m2 ≤ 12 := by omega
  have HM1 := Lib.hid hm1
  have HM2 := Lib.hid hm2
  have enBi := Lib.hid (enters Tryz.func28 (by kernel_rfl) rfl)
  clear hm1 hm2
  go_upto_region 3 with (fail)
  generalize (W1.alloc (.cells #[.slice Av pl.length cv, .int .i64 N, .int .i64 0] 100)).alloc (.cells #[.int .u32 0, .int .u32 0, .int .u32 0, .int .u32 0, .int .u32 0, .int .u32 0, .int .u32 0, .int .u32 0, .int .u32 0, .int .u8 0, .int .i64 0, .int .i64 0] 52) = V' at *
  subst hV
  obtain ⟨v, hv⟩ : ∃ v, Value.slice Av pl.length cv = v := ⟨_, rfl⟩
  rw [hv] at T0 HSV
  clear hv
  go_wp2
  go_loopw [8] (fun i wr => ∃ (k : Nat) (d : ShowM) (a : Nat), k ≤ m1 ∧ i = .int .i64 k ∧ gSecs (rdZ l) kinds k = (d, a) ∧ TD W1 wr v N a d) (fun i _ => m1 - (intOf i).toNat)
  case atStart => exact ⟨0, s0, 0, Nat.zero_le _, rfl, rfl, T0⟩
  case round =>
    clear T0
    obtain ⟨k, d, a, hk, rfl, hg, T⟩ := hrel
    have RL := range_of (var_later VL1 T.b)
    go_wp2_with (first
      | refine wpList_load_k 29 (.tmp 2) (by rfl) w.heap.size 0 (by rfl) L _ RL Tryz.underlying29 rfl szL (by kernel_rfl) ?_
      | fail)
    refine (sections28_c L kinds.length A c (m1 : Int) _ (by rw [HM1.out]) HL1.out.f.sec).mono ?_
    rintro e Wx ⟨rfl, bx⟩
    replace T := T.later bx
    clear bx RL
    have ha : a ≤ 120 := by have := gSecs_pos (rdZ l) kinds k; rw [hg] at this; simp only at this; omega
    by_cases hlt : k < m1
    · have i1 : (k : Int) < (m1 : Int) := by omega
      have i2 : decide (k < m1) = true := decide_eq_true hlt
      have k32 : k < 32 := by omega
      have HG := Lib.hid hg
      clear hg
      go_upto_region 6 with (fail)
      go_cut [29] from 24 to 28 (fun _ wx => TD W1 wx v N (a + 1) { d with clear := orB d.clear k (rdZ l (a) 1 == 1) })
      case first =>
        obtain ⟨bb, hbb⟩ : ∃ b, (rdZ l (a) 1 == 1) = b := ⟨_, rfl⟩
        have HBB := Lib.hid hbb
        clear hbb
        have hor := or_bb d.clear k bb
        obtain ⟨z0, hz0⟩ : ∃ z : Int, (d.clear.toNat : Int) = z := ⟨_, rfl⟩
        obtain ⟨z1, hz1⟩ : ∃ z : Int, ((bbit bb k).toNat : Int) = z := ⟨_, rfl⟩
        rw [hz0, hz1] at hor
        have HZ0 := Lib.hid hz0
        have HZ1 := Lib.hid hz1
        clear hz0 hz1
        refine wp_region_held_drew (S := (fun _ => True)) (by kernel_rfl) ?_ (fun hHeld => ?_)
        · trivial
        replace T := T.later (Below.refl _ _).drew
        refine Node.tk 0 ?_ rfl ?_ ?_
        rotate_left
        · intro w hSw; (try dsimp only at hSw); go_simp; try with_reducible rfl
        simp only [zA, zS, zZ, Act.put, zP, zQ, zR]
        refine Node.tk 2 ?_ rfl ?_ ?_
        rotate_left
        · intro w hSw; (try dsimp only at hSw); go_simp; try with_reducible rfl
        simp only [zA, zS, zZ, Act.put, zP, zQ, zR]
        refine Node.tk 3 ?_ rfl ?_ ?_
        rotate_left
        · intro w hSw; (try dsimp only at hSw); go_simp; try with_reducible rfl
        simp only [zA, zS, zZ, Act.put, zP, zQ, zR]
        clear hHeld
        refine wpAnyH_ready (rs := [1, 4]) (by kernel_rfl) (by simp) ?_
        refine AllReadyH.cons rfl (fun K hK => ?_) (AllReadyH.cons rfl (fun K hK => ?_) AllReadyH.nil)
        · skip
          have x := cell_list T.s (i := 0) (v := .int .u32 z0) (by rw [← HZ0.out]; rfl)
          go_simp
          refine hK.out _ _ trivial (fun _ => ?_)
          clear hK K
          try simp only [zA, zS, zZ, Act.put, zP, zQ, zR]
          clear x
          refine Node.on 4 rfl (fun K hK => ?_)
          refine Node.wp_fn 28 [.tmp 26, .tmp 27] _ [.pointer (some ⟨W1.heap.size, 0, none⟩), .int .i64 k] (by rfl) (by kernel_rfl) enBi.out (rbit28_c W1.heap.size v pl l N (a) k _ k32 (T.rda HNL.out HSV.out HHH.out) HLL.out (by omega)) ?_
          rintro e V' ⟨⟨W2, bF, rfl⟩, rfl⟩
          refine ⟨_, rfl, ?_⟩
          rw [HBB.out, HZ1.out]
          replace T := T.num (a' := a + 1) bF
          generalize W2.setCell _ _ = W3 at *
          clear bF
          refine hK.out _ _ trivial (fun _ => ?_)
          clear hK K
          try simp only [zA, zS, zZ, Act.put, zP, zQ, zR]
          refine Node.on 5 rfl (fun K hK => ?_)
          go_simp
          refine hK.out _ _ trivial (fun _ => ?_)
          clear hK K
          try simp only [zA, zS, zZ, Act.put, zP, zQ, zR]
          have hHeld : True := trivial
          refine Node.tk 6 ?_ rfl ?_ ?_
          rotate_left
          · intro w hSw; (try dsimp only at hSw); go_simp; try with_reducible rfl
          simp only [zA, zS, zZ, Act.put, zP, zQ, zR]
          clear hHeld
          refine Node.on 7 rfl (fun K hK => ?_)
          have x := cell_list T.s (i := 0) (v := .int .u32 z0) (by rw [← HZ0.out]; rfl)
          have f := free_at T.s 0
          go_simp
          replace T := T.set 0 (.int .u32 (orB d.clear k bb).toNat) (d' := { d with clear := orB d.clear k bb }) rfl
          clear x f
          refine hK.out _ _ trivial (fun _ => ?_)
          clear hK K
          try simp only [zA, zS, zZ, Act.put, zP, zQ, zR]
          refine wpAnyH_done (by kernel_rfl) ?_ _
          go_wp2
          go_meet
          rw [HBB.out]
          exact T
        · skip
          refine Node.wp_fn 28 [.tmp 26, .tmp 27] _ [.pointer (some ⟨W1.heap.size, 0, none⟩), .int .i64 k] (by rfl) (by kernel_rfl) enBi.out (rbit28_c W1.heap.size v pl l N (a) k _ k32 (T.rda HNL.out HSV.out HHH.out) HLL.out (by omega)) ?_
          rintro e V' ⟨⟨W2, bF, rfl⟩, rfl⟩
          refine ⟨_, rfl, ?_⟩
          rw [HBB.out, HZ1.out]
          replace T := T.num (a' := a + 1) bF
          generalize W2.setCell _ _ = W3 at *
          clear bF
          refine hK.out _ _ trivial (fun _ => ?_)
          clear hK K
          try simp only [zA, zS, zZ, Act.put, zP, zQ, zR]
          refine Node.on 1 rfl (fun K hK => ?_)
          have x := cell_list T.s (i := 0) (v := .int .u32 z0) (by rw [← HZ0.out]; rfl)
          go_simp
          refine hK.out _ _ trivial (fun _ => ?_)
          clear hK K
          try simp only [zA, zS, zZ, Act.put, zP, zQ, zR]
          clear x
          refine Node.on 5 rfl (fun K hK => ?_)
          go_simp
          refine hK.out _ _ trivial (fun _ => ?_)
          clear hK K
          try simp only [zA, zS, zZ, Act.put, zP, zQ, zR]
          have hHeld : True := trivial
          refine Node.tk 6 ?_ rfl ?_ ?_
          rotate_left
          · intro w hSw; (try dsimp only at hSw); go_simp; try with_reducible rfl
          simp only [zA, zS, zZ, Act.put, zP, zQ, zR]
          clear hHeld
          refine Node.on 7 rfl (fun K hK => ?_)
          have x := cell_list T.s (i := 0) (v := .int .u32 z0) (by rw [← HZ0.out]; rfl)
          have f := free_at T.s 0
          go_simp
          replace T := T.set 0 (.int .u32 (orB d.clear k bb).toNat) (d' := { d with clear := orB d.clear k bb }) rfl
          clear x f
          refine hK.out _ _ trivial (fun _ => ?_)
          clear hK K
          try simp only [zA, zS, zZ, Act.put, zP, zQ, zR]
          refine wpAnyH_done (by kernel_rfl) ?_ _
          go_wp2
          go_meet
          rw [HBB.out]
          exact T
      case rest =>
        clear T
        obtain ⟨d1, hd1⟩ : ∃ x, { d with clear := orB d.clear k (rdZ l (a) 1 == 1) } = x := ⟨_, rfl⟩
        have T := hcut
        rw [hd1] at T
        have Hd1 := Lib.hid hd1
        clear hd1 hcut
        go_upto_region 7 with (fail)
        go_cut [36] from 31 to 35 (fun _ wx => TD W1 wx v N (a + 1 + 1) { d1 with held := orB d1.held k (rdZ l (a + 1) 1 == 1) })
        case first =>
          obtain ⟨bb, hbb⟩ : ∃ b, (rdZ l (a + 1) 1 == 1) = b := ⟨_, rfl⟩
          have HBB := Lib.hid hbb
          clear hbb
          have hor := or_bb d1.held k bb
          obtain ⟨z0, hz0⟩ : ∃ z : Int, (d1.held.toNat : Int) = z := ⟨_, rfl⟩
          obtain ⟨z1, hz1⟩ : ∃ z : Int, ((bbit bb k).toNat : Int) = z := ⟨_, rfl⟩
          rw [hz0, hz1] at hor
          have HZ0 := Lib.hid hz0
          have HZ1 := Lib.hid hz1
          clear hz0 hz1
          refine wp_region_held_drew (S := (fun _ => True)) (by kernel_rfl) ?_ (fun hHeld => ?_)
          · trivial
          replace T := T.later (Below.refl _ _).drew
          refine Node.tk 0 ?_ rfl ?_ ?_
          rotate_left
          · intro w hSw; (try dsimp only at hSw); go_simp; try with_reducible rfl
          simp only [zA, zS, zZ, Act.put, zP, zQ, zR]
          refine Node.tk 2 ?_ rfl ?_ ?_
          rotate_left
          · intro w hSw; (try dsimp only at hSw); go_simp; try with_reducible rfl
          simp only [zA, zS, zZ, Act.put, zP, zQ, zR]
          refine Node.tk 3 ?_ rfl ?_ ?_
          rotate_left
          · intro w hSw; (try dsimp only at hSw); go_simp; try with_reducible rfl
          simp only [zA, zS, zZ, Act.put, zP, zQ, zR]
          clear hHeld
          refine wpAnyH_ready (rs := [1, 4]) (by kernel_rfl) (by simp) ?_
          refine AllReadyH.cons rfl (fun K hK => ?_) (AllReadyH.cons rfl (fun K hK => ?_) AllReadyH.nil)
          · skip
            have x := cell_list T.s (i := 1) (v := .int .u32 z0) (by rw [← HZ0.out]; rfl)
            go_simp
            refine hK.out _ _ trivial (fun _ => ?_)
            clear hK K
            try simp only [zA, zS, zZ, Act.put, zP, zQ, zR]
            clear x
            refine Node.on 4 rfl (fun K hK => ?_)
            refine Node.wp_fn 28 [.tmp 33, .tmp 34] _ [.pointer (some ⟨W1.heap.size, 0, none⟩), .int .i64 k] (by rfl) (by kernel_rfl) enBi.out (rbit28_c W1.heap.size v pl l N (a + 1) k _ k32 (T.rda HNL.out HSV.out HHH.out) HLL.out (by omega)) ?_
            rintro e V' ⟨⟨W2, bF, rfl⟩, rfl⟩
            refine ⟨_, rfl, ?_⟩
            rw [HBB.out, HZ1.out]
            replace T := T.num (a' := a + 1 + 1) bF
            generalize W2.setCell _ _ = W3 at *
            clear bF
            refine hK.out _ _ trivial (fun _ => ?_)
            clear hK K
            try simp only [zA, zS, zZ, Act.put, zP, zQ, zR]
            refine Node.on 5 rfl (fun K hK => ?_)
            go_simp
            refine hK.out _ _ trivial (fun _ => ?_)
            clear hK K
            try simp only [zA, zS, zZ, Act.put, zP, zQ, zR]
            have hHeld : True := trivial
            refine Node.tk 6 ?_ rfl ?_ ?_
            rotate_left
            · intro w hSw; (try dsimp only at hSw); go_simp; try with_reducible rfl
            simp only [zA, zS, zZ, Act.put, zP, zQ, zR]
            clear hHeld
            refine Node.on 7 rfl (fun K hK => ?_)
            have x := cell_list T.s (i := 1) (v := .int .u32 z0) (by rw [← HZ0.out]; rfl)
            have f := free_at T.s 1
            go_simp
            replace T := T.set 1 (.int .u32 (orB d1.held k bb).toNat) (d' := { d1 with held := orB d1.held k bb }) rfl
            clear x f
            refine hK.out _ _ trivial (fun _ => ?_)
            clear hK K
            try simp only [zA, zS, zZ, Act.put, zP, zQ, zR]
            refine wpAnyH_done (by kernel_rfl) ?_ _
            go_wp2
            go_meet
            rw [HBB.out]
            exact T
          · skip
            refine Node.wp_fn 28 [.tmp 33, .tmp 34] _ [.pointer (some ⟨W1.heap.size, 0, none⟩), .int .i64 k] (by rfl) (by kernel_rfl) enBi.out (rbit28_c W1.heap.size v pl l N (a + 1) k _ k32 (T.rda HNL.out HSV.out HHH.out) HLL.out (by omega)) ?_
            rintro e V' ⟨⟨W2, bF, rfl⟩, rfl⟩
            refine ⟨_, rfl, ?_⟩
            rw [HBB.out, HZ1.out]
            replace T := T.num (a' := a + 1 + 1) bF
            generalize W2.setCell _ _ = W3 at *
            clear bF
            refine hK.out _ _ trivial (fun _ => ?_)
            clear hK K
            try simp only [zA, zS, zZ, Act.put, zP, zQ, zR]
            refine Node.on 1 rfl (fun K hK => ?_)
            have x := cell_list T.s (i := 1) (v := .int .u32 z0) (by rw [← HZ0.out]; rfl)
            go_simp
            refine hK.out _ _ trivial (fun _ => ?_)
            clear hK K
            try simp only [zA, zS, zZ, Act.put, zP, zQ, zR]
            clear x
            refine Node.on 5 rfl (fun K hK => ?_)
            go_simp
            refine hK.out _ _ trivial (fun _ => ?_)
            clear hK K
            try simp only [zA, zS, zZ, Act.put, zP, zQ, zR]
            have hHeld : True := trivial
            refine Node.tk 6 ?_ rfl ?_ ?_
            rotate_left
            · intro w hSw; (try dsimp only at hSw); go_simp; try with_reducible rfl
            simp only [zA, zS, zZ, Act.put, zP, zQ, zR]
            clear hHeld
            refine Node.on 7 rfl (fun K hK => ?_)
            have x := cell_list T.s (i := 1) (v := .int .u32 z0) (by rw [← HZ0.out]; rfl)
            have f := free_at T.s 1
            go_simp
            replace T := T.set 1 (.int .u32 (orB d1.held k bb).toNat) (d' := { d1 with held := orB d1.held k bb }) rfl
            clear x f
            refine hK.out _ _ trivial (fun _ => ?_)
            clear hK K
            try simp only [zA, zS, zZ, Act.put, zP, zQ, zR]
            refine wpAnyH_done (by kernel_rfl) ?_ _
            go_wp2
            go_meet
            rw [HBB.out]
            exact T
        case rest =>
          clear T
          obtain ⟨d2, hd2⟩ : ∃ x, { d1 with held := orB d1.held k (rdZ l (a + 1) 1 == 1) } = x := ⟨_, rfl⟩
          have T := hcut
          rw [hd2] at T
          have Hd2 := Lib.hid hd2
          clear hd2 hcut
          obtain ⟨zk, hzk⟩ : ∃ z, kinds[k]? = some z := ⟨_, List.getElem?_eq_getElem (by have := HM1.out; omega)⟩
          obtain ⟨pb, hpb⟩ : ∃ b, (zk == 2) = b := ⟨_, rfl⟩
          have hkd : (kinds.getD k 0 == 2) = pb := by rw [List.getD_eq_getElem?_getD, hzk]; exact hpb
          have hkl : k < kinds.length := by have := HM1.out; omega
          have LYw := HL1.out.later T.b
          obtain ⟨A', c', hv, hc0, hc1, hsl⟩ := LYw.sa
          obtain ⟨bs, off, hA', hlb, hcell⟩ := hsl.resolve_left (by omega)
          have y0 := hcell k zk hzk
          have yA := cell_list (var_later VL1 T.b) HL1.out.f.sec
          obtain ⟨rfl, _, rfl⟩ := Value.slice.inj hv
          rw [hA'] at yA
          have ii : (k : Int) < (kinds.length : Int) := by omega
          have HKD := Lib.hid hkd
          clear hv hsl hcell hzk hkd LYw hlb hc0 hc1
          cases pb
          · go_wp2
            go_roundw
            case rel => exact ⟨k + 1, d2, a + 1 + 1, by omega, by go_num, by
              show gSec (rdZ l) kinds k (gSecs (rdZ l) kinds k) = _
              rw [HG.out, gSec_np HKD.out]
              have h1 := Hd1.out
              have h2 := Hd2.out
              clear T
              subst h2
              subst h1
              rfl, T⟩
            case measure => simp [intOf]; omega
          · go_upto_region 9 with (fail)
            clear y0 yA ii hpb
            go_wp2_with fail
            refine (two28_c W1.heap.size v pl l N (a + 1 + 1) k _ k32 (T.rda HNL.out HSV.out HHH.out) HLL.out (by omega)).mono ?_
            rintro e V' ⟨⟨W2, bF, rfl⟩, rfl⟩
            replace T := T.num (a' := a + 1 + 1 + 2) bF
            generalize W2.setCell _ _ = W3 at *
            clear bF
            obtain ⟨nb, hnb⟩ : ∃ b, (rdZ l (a + 1 + 1) 2 == 1) = b := ⟨_, rfl⟩
            obtain ⟨rb, hrb⟩ : ∃ b, (rdZ l (a + 1 + 1) 2 == 2) = b := ⟨_, rfl⟩
            have HNB := Lib.hid hnb
            have HRB := Lib.hid hrb
            rw [hnb, hrb]
            clear hnb hrb
            go_upto_region 10 with (fail)
            have hor := or_bb d2.normal k nb
            have x2 := cell_list T.s (i := 2) (v := .int .u32 d2.normal.toNat) rfl
            have f2 := free_at T.s 2
            go_upto_region 11 with (fail)
            clear x2 f2 hor
            replace T := T.set 2 (.int .u32 (orB d2.normal k nb).toNat) (d' := { d2 with normal := orB d2.normal k nb }) rfl
            generalize W3.setCell ⟨W1.heap.size + 1, 2, none⟩ (.int .u32 (orB d2.normal k nb).toNat) = W4 at *
            obtain ⟨d3, hd3⟩ : ∃ x, { d2 with normal := orB d2.normal k nb } = x := ⟨_, rfl⟩
            rw [hd3] at T
            have Hd3 := Lib.hid hd3
            clear hd3
            have hor := or_bb d3.reverse k rb
            have x2 := cell_list T.s (i := 3) (v := .int .u32 d3.reverse.toNat) rfl
            have f2 := free_at T.s 3
            go_upto_region 12 with (fail)
            clear x2 f2 hor
            replace T := T.set 3 (.int .u32 (orB d3.reverse k rb).toNat) (d' := { d3 with reverse := orB d3.reverse k rb }) rfl
            generalize W4.setCell ⟨W1.heap.size + 1, 3, none⟩ (.int .u32 (orB d3.reverse k rb).toNat) = W5 at *
            obtain ⟨d4, hd4⟩ : ∃ x, { d3 with reverse := orB d3.reverse k rb } = x := ⟨_, rfl⟩
            rw [hd4] at T
            have Hd4 := Lib.hid hd4
            clear hd4
            obtain ⟨bb, hbb⟩ : ∃ b, (rdZ l (a + 1 + 1 + 2) 1 == 1) = b := ⟨_, rfl⟩
            have HBB := Lib.hid hbb
            clear hbb
            have hor := or_bb d4.locked k bb
            obtain ⟨z0, hz0⟩ : ∃ z : Int, (d4.locked.toNat : Int) = z := ⟨_, rfl⟩
            obtain ⟨z1, hz1⟩ : ∃ z : Int, ((bbit bb k).toNat : Int) = z := ⟨_, rfl⟩
            rw [hz0, hz1] at hor
            have HZ0 := Lib.hid hz0
            have HZ1 := Lib.hid hz1
            clear hz0 hz1
            refine wp_region_held_drew (S := (fun _ => True)) (by kernel_rfl) ?_ (fun hHeld => ?_)
            · trivial
            replace T := T.later (Below.refl _ _).drew
            refine Node.tk 0 ?_ rfl ?_ ?_
            rotate_left
            · intro w hSw; (try dsimp only at hSw); go_simp; try with_reducible rfl
            simp only [zA, zS, zZ, Act.put, zP, zQ, zR]
            refine Node.tk 2 ?_ rfl ?_ ?_
            rotate_left
            · intro w hSw; (try dsimp only at hSw); go_simp; try with_reducible rfl
            simp only [zA, zS, zZ, Act.put, zP, zQ, zR]
            refine Node.tk 3 ?_ rfl ?_ ?_
            rotate_left
            · intro w hSw; (try dsimp only at hSw); go_simp; try with_reducible rfl
            simp only [zA, zS, zZ, Act.put, zP, zQ, zR]
            clear hHeld
            refine wpAnyH_ready (rs := [1, 4]) (by kernel_rfl) (by simp) ?_
            refine AllReadyH.cons rfl (fun K hK => ?_) (AllReadyH.cons rfl (fun K hK => ?_) AllReadyH.nil)
            · skip
              have x := cell_list T.s (i := 4) (v := .int .u32 z0) (by rw [← HZ0.out]; rfl)
              go_simp
              refine hK.out _ _ trivial (fun _ => ?_)
              clear hK K
              try simp only [zA, zS, zZ, Act.put, zP, zQ, zR]
              clear x
              refine Node.on 4 rfl (fun K hK => ?_)
              refine Node.wp_fn 28 [.tmp 63, .tmp 64] _ [.pointer (some ⟨W1.heap.size, 0, none⟩), .int .i64 k] (by rfl) (by kernel_rfl) enBi.out (rbit28_c W1.heap.size v pl l N (a + 1 + 1 + 2) k _ k32 (T.rda HNL.out HSV.out HHH.out) HLL.out (by omega)) ?_
              rintro e V' ⟨⟨W2, bF, rfl⟩, rfl⟩
              refine ⟨_, rfl, ?_⟩
              rw [HBB.out, HZ1.out]
              replace T := T.num (a' := a + 1 + 1 + 2 + 1) bF
              generalize W2.setCell _ _ = W3 at *
              clear bF
              refine hK.out _ _ trivial (fun _ => ?_)
              clear hK K
              try simp only [zA, zS, zZ, Act.put, zP, zQ, zR]
              refine Node.on 5 rfl (fun K hK => ?_)
              go_simp
              refine hK.out _ _ trivial (fun _ => ?_)
              clear hK K
              try simp only [zA, zS, zZ, Act.put, zP, zQ, zR]
              have hHeld : True := trivial
              refine Node.tk 6 ?_ rfl ?_ ?_
              rotate_left
              · intro w hSw; (try dsimp only at hSw); go_simp; try with_reducible rfl
              simp only [zA, zS, zZ, Act.put, zP, zQ, zR]
              clear hHeld
              refine Node.on 7 rfl (fun K hK => ?_)
              have x := cell_list T.s (i := 4) (v := .int .u32 z0) (by rw [← HZ0.out]; rfl)
              have f := free_at T.s 4
              go_simp
              replace T := T.set 4 (.int .u32 (orB d4.locked k bb).toNat) (d' := { d4 with locked := orB d4.locked k bb }) rfl
              clear x f
              refine hK.out _ _ trivial (fun _ => ?_)
              clear hK K
              try simp only [zA, zS, zZ, Act.put, zP, zQ, zR]
              refine wpAnyH_done (by kernel_rfl) ?_ _
              obtain ⟨d5, hd5⟩ : ∃ x, { d4 with locked := orB d4.locked k bb } = x := ⟨_, rfl⟩
              rw [hd5] at T
              have Hd5 := Lib.hid hd5
              clear hd5
              go_wp2
              go_roundw
              case rel => exact ⟨k + 1, d5, a + 1 + 1 + 2 + 1, by omega, by go_num, by
                show gSec (rdZ l) kinds k (gSecs (rdZ l) kinds k) = _
                rw [HG.out, gSec_p HKD.out, HNB.out, HRB.out, HBB.out]
                have h1 := Hd1.out
                have h2 := Hd2.out
                have h3 := Hd3.out
                have h4 := Hd4.out
                have h5 := Hd5.out
                clear T
                subst h5
                subst h4
                subst h3
                subst h2
                subst h1
                rfl, T⟩
              case measure => simp [intOf]; omega
            · skip
              refine Node.wp_fn 28 [.tmp 63, .tmp 64] _ [.pointer (some ⟨W1.heap.size, 0, none⟩), .int .i64 k] (by rfl) (by kernel_rfl) enBi.out (rbit28_c W1.heap.size v pl l N (a + 1 + 1 + 2) k _ k32 (T.rda HNL.out HSV.out HHH.out) HLL.out (by omega)) ?_
              rintro e V' ⟨⟨W2, bF, rfl⟩, rfl⟩
              refine ⟨_, rfl, ?_⟩
              rw [HBB.out, HZ1.out]
              replace T := T.num (a' := a + 1 + 1 + 2 + 1) bF
              generalize W2.setCell _ _ = W3 at *
              clear bF
              refine hK.out _ _ trivial (fun _ => ?_)
              clear hK K
              try simp only [zA, zS, zZ, Act.put, zP, zQ, zR]
              refine Node.on 1 rfl (fun K hK => ?_)
              have x := cell_list T.s (i := 4) (v := .int .u32 z0) (by rw [← HZ0.out]; rfl)
              go_simp
              refine hK.out _ _ trivial (fun _ => ?_)
              clear hK K
              try simp only [zA, zS, zZ, Act.put, zP, zQ, zR]
              clear x
              refine Node.on 5 rfl (fun K hK => ?_)
              go_simp
              refine hK.out _ _ trivial (fun _ => ?_)
              clear hK K
              try simp only [zA, zS, zZ, Act.put, zP, zQ, zR]
              have hHeld : True := trivial
              refine Node.tk 6 ?_ rfl ?_ ?_
              rotate_left
              · intro w hSw; (try dsimp only at hSw); go_simp; try with_reducible rfl
              simp only [zA, zS, zZ, Act.put, zP, zQ, zR]
              clear hHeld
              refine Node.on 7 rfl (fun K hK => ?_)
              have x := cell_list T.s (i := 4) (v := .int .u32 z0) (by rw [← HZ0.out]; rfl)
              have f := free_at T.s 4
              go_simp
              replace T := T.set 4 (.int .u32 (orB d4.locked k bb).toNat) (d' := { d4 with locked := orB d4.locked k bb }) rfl
              clear x f
              refine hK.out _ _ trivial (fun _ => ?_)
              clear hK K
              try simp only [zA, zS, zZ, Act.put, zP, zQ, zR]
              refine wpAnyH_done (by kernel_rfl) ?_ _
              obtain ⟨d5, hd5⟩ : ∃ x, { d4 with locked := orB d4.locked k bb } = x := ⟨_, rfl⟩
              rw [hd5] at T
              have Hd5 := Lib.hid hd5
              clear hd5
              go_wp2
              go_roundw
              case rel => exact ⟨k + 1, d5, a + 1 + 1 + 2 + 1, by omega, by go_num, by
                show gSec (rdZ l) kinds k (gSecs (rdZ l) kinds k) = _
                rw [HG.out, gSec_p HKD.out, HNB.out, HRB.out, HBB.out]
                have h1 := Hd1.out
                have h2 := Hd2.out
                have h3 := Hd3.out
                have h4 := Hd4.out
                have h5 := Hd5.out
                clear T
                subst h5
                subst h4
                subst h3
                subst h2
                subst h1
                rfl, T⟩
              case measure => simp [intOf]; omega
    · obtain rfl : k = m1 := by omega
      have i2 : decide (k < k) = false := decide_eq_false (by omega)
      go_upto_region 13 with (fail)
      obtain ⟨p, hp⟩ : ∃ p : TSt, gSecs (rdZ l) kinds k = p := ⟨_, rfl⟩
      have hpp : p = (d, a) := hp.symm.trans hg
      have HGP := Lib.hid hp
      have ha0 : p.2 ≤ 120 := by rw [hpp]; exact ha
      have hgs : gSigs (rdZ l) p 0 = (d, a) := hpp
      clear hp hpp hg ha
      go_wp2
      go_loopw [11] (fun i wj => ∃ (j : Nat) (d : ShowM) (a : Nat), j ≤ m2 ∧ i = .int .i64 j ∧ gSigs (rdZ l) p j = (d, a) ∧ TD W1 wj v N a d) (fun i _ => m2 - (intOf i).toNat)
      case atStart => exact ⟨0, d, a, Nat.zero_le _, rfl, hgs, T⟩
      case round =>
        clear T hgs
        obtain ⟨k, d, a, hj, rfl, hg, T⟩ := hrel
        have RL := range_of (var_later VL1 T.b)
        go_wp2_with (first
          | refine wpList_load_k 29 (.tmp 2) (by rfl) w.heap.size 0 (by rfl) L _ RL Tryz.underlying29 rfl szL (by kernel_rfl) ?_
          | fail)
        refine (signals28_c L nsig A1 c1 (m2 : Int) _ (by rw [HM2.out]) HL1.out.f.sig).mono ?_
        rintro e Wx ⟨rfl, bx⟩
        replace T := T.later bx
        clear bx RL
        have ha : a ≤ 200 := by have := gSigs_pos (rdZ l) p k; rw [hg] at this; simp only at this; omega
        by_cases hlt2 : k < m2
        · have i3 : (k : Int) < (m2 : Int) := by omega
          have i4 : decide (k < m2) = true := decide_eq_true hlt2
          have k32 : k < 32 := by omega
          have HG := Lib.hid hg
          clear hg
          go_upto_region 16 with (fail)
          go_cut [79] from 74 to 78 (fun _ wx => TD W1 wx v N (a + 1) { d with off := orB d.off k (rdZ l (a) 1 == 1) })
          case first =>
            obtain ⟨bb, hbb⟩ : ∃ b, (rdZ l (a) 1 == 1) = b := ⟨_, rfl⟩
            have HBB := Lib.hid hbb
            clear hbb
            have hor := or_bb d.off k bb
            obtain ⟨z0, hz0⟩ : ∃ z : Int, (d.off.toNat : Int) = z := ⟨_, rfl⟩
            obtain ⟨z1, hz1⟩ : ∃ z : Int, ((bbit bb k).toNat : Int) = z := ⟨_, rfl⟩
            rw [hz0, hz1] at hor
            have HZ0 := Lib.hid hz0
            have HZ1 := Lib.hid hz1
            clear hz0 hz1
            refine wp_region_held_drew (S := (fun _ => True)) (by kernel_rfl) ?_ (fun hHeld => ?_)
            · trivial
            replace T := T.later (Below.refl _ _).drew
            refine Node.tk 0 ?_ rfl ?_ ?_
            rotate_left
            · intro w hSw; (try dsimp only at hSw); go_simp; try with_reducible rfl
            simp only [zA, zS, zZ, Act.put, zP, zQ, zR]
            refine Node.tk 2 ?_ rfl ?_ ?_
            rotate_left
            · intro w hSw; (try dsimp only at hSw); go_simp; try with_reducible rfl
            simp only [zA, zS, zZ, Act.put, zP, zQ, zR]
            refine Node.tk 3 ?_ rfl ?_ ?_
            rotate_left
            · intro w hSw; (try dsimp only at hSw); go_simp; try with_reducible rfl
            simp only [zA, zS, zZ, Act.put, zP, zQ, zR]
            clear hHeld
            refine wpAnyH_ready (rs := [1, 4]) (by kernel_rfl) (by simp) ?_
            refine AllReadyH.cons rfl (fun K hK => ?_) (AllReadyH.cons rfl (fun K hK => ?_) AllReadyH.nil)
            · skip
              have x := cell_list T.s (i := 5) (v := .int .u32 z0) (by rw [← HZ0.out]; rfl)
              go_simp
              refine hK.out _ _ trivial (fun _ => ?_)
              clear hK K
              try simp only [zA, zS, zZ, Act.put, zP, zQ, zR]
              clear x
              refine Node.on 4 rfl (fun K hK => ?_)
              refine Node.wp_fn 28 [.tmp 76, .tmp 77] _ [.pointer (some ⟨W1.heap.size, 0, none⟩), .int .i64 k] (by rfl) (by kernel_rfl) enBi.out (rbit28_c W1.heap.size v pl l N (a) k _ k32 (T.rda HNL.out HSV.out HHH.out) HLL.out (by omega)) ?_
              rintro e V' ⟨⟨W2, bF, rfl⟩, rfl⟩
              refine ⟨_, rfl, ?_⟩
              rw [HBB.out, HZ1.out]
              replace T := T.num (a' := a + 1) bF
              generalize W2.setCell _ _ = W3 at *
              clear bF
              refine hK.out _ _ trivial (fun _ => ?_)
              clear hK K
              try simp only [zA, zS, zZ, Act.put, zP, zQ, zR]
              refine Node.on 5 rfl (fun K hK => ?_)
              go_simp
              refine hK.out _ _ trivial (fun _ => ?_)
              clear hK K
              try simp only [zA, zS, zZ, Act.put, zP, zQ, zR]
              have hHeld : True := trivial
              refine Node.tk 6 ?_ rfl ?_ ?_
              rotate_left
              · intro w hSw; (try dsimp only at hSw); go_simp; try with_reducible rfl
              simp only [zA, zS, zZ, Act.put, zP, zQ, zR]
              clear hHeld
              refine Node.on 7 rfl (fun K hK => ?_)
              have x := cell_list T.s (i := 5) (v := .int .u32 z0) (by rw [← HZ0.out]; rfl)
              have f := free_at T.s 5
              go_simp
              replace T := T.set 5 (.int .u32 (orB d.off k bb).toNat) (d' := { d with off := orB d.off k bb }) rfl
              clear x f
              refine hK.out _ _ trivial (fun _ => ?_)
              clear hK K
              try simp only [zA, zS, zZ, Act.put, zP, zQ, zR]
              refine wpAnyH_done (by kernel_rfl) ?_ _
              go_wp2
              go_meet
              rw [HBB.out]
              exact T
            · skip
              refine Node.wp_fn 28 [.tmp 76, .tmp 77] _ [.pointer (some ⟨W1.heap.size, 0, none⟩), .int .i64 k] (by rfl) (by kernel_rfl) enBi.out (rbit28_c W1.heap.size v pl l N (a) k _ k32 (T.rda HNL.out HSV.out HHH.out) HLL.out (by omega)) ?_
              rintro e V' ⟨⟨W2, bF, rfl⟩, rfl⟩
              refine ⟨_, rfl, ?_⟩
              rw [HBB.out, HZ1.out]
              replace T := T.num (a' := a + 1) bF
              generalize W2.setCell _ _ = W3 at *
              clear bF
              refine hK.out _ _ trivial (fun _ => ?_)
              clear hK K
              try simp only [zA, zS, zZ, Act.put, zP, zQ, zR]
              refine Node.on 1 rfl (fun K hK => ?_)
              have x := cell_list T.s (i := 5) (v := .int .u32 z0) (by rw [← HZ0.out]; rfl)
              go_simp
              refine hK.out _ _ trivial (fun _ => ?_)
              clear hK K
              try simp only [zA, zS, zZ, Act.put, zP, zQ, zR]
              clear x
              refine Node.on 5 rfl (fun K hK => ?_)
              go_simp
              refine hK.out _ _ trivial (fun _ => ?_)
              clear hK K
              try simp only [zA, zS, zZ, Act.put, zP, zQ, zR]
              have hHeld : True := trivial
              refine Node.tk 6 ?_ rfl ?_ ?_
              rotate_left
              · intro w hSw; (try dsimp only at hSw); go_simp; try with_reducible rfl
              simp only [zA, zS, zZ, Act.put, zP, zQ, zR]
              clear hHeld
              refine Node.on 7 rfl (fun K hK => ?_)
              have x := cell_list T.s (i := 5) (v := .int .u32 z0) (by rw [← HZ0.out]; rfl)
              have f := free_at T.s 5
              go_simp
              replace T := T.set 5 (.int .u32 (orB d.off k bb).toNat) (d' := { d with off := orB d.off k bb }) rfl
              clear x f
              refine hK.out _ _ trivial (fun _ => ?_)
              clear hK K
              try simp only [zA, zS, zZ, Act.put, zP, zQ, zR]
              refine wpAnyH_done (by kernel_rfl) ?_ _
              go_wp2
              go_meet
              rw [HBB.out]
              exact T
          case rest =>
            clear T
            obtain ⟨d1, hd1⟩ : ∃ x, { d with off := orB d.off k (rdZ l (a) 1 == 1) } = x := ⟨_, rfl⟩
            have T := hcut
            rw [hd1] at T
            have Hd1 := Lib.hid hd1
            clear hd1 hcut
            go_upto_region 17 with (fail)
            go_wp2_with fail
            refine (two28_c W1.heap.size v pl l N (a + 1) k _ k32 (T.rda HNL.out HSV.out HHH.out) HLL.out (by omega)).mono ?_
            rintro e V' ⟨⟨W2, bF, rfl⟩, rfl⟩
            replace T := T.num (a' := a + 1 + 2) bF
            generalize W2.setCell _ _ = W3 at *
            clear bF
            obtain ⟨nb, hnb⟩ : ∃ b, (rdZ l (a + 1) 2 == 1) = b := ⟨_, rfl⟩
            obtain ⟨rb, hrb⟩ : ∃ b, (rdZ l (a + 1) 2 == 2) = b := ⟨_, rfl⟩
            have HNB := Lib.hid hnb
            have HRB := Lib.hid hrb
            rw [hnb, hrb]
            clear hnb hrb
            go_upto_region 18 with (fail)
            have hor := or_bb d1.steady k nb
            have x2 := cell_list T.s (i := 6) (v := .int .u32 d1.steady.toNat) rfl
            have f2 := free_at T.s 6
            go_upto_region 19 with (fail)
            clear x2 f2 hor
            replace T := T.set 6 (.int .u32 (orB d1.steady k nb).toNat) (d' := { d1 with steady := orB d1.steady k nb }) rfl
            generalize W3.setCell ⟨W1.heap.size + 1, 6, none⟩ (.int .u32 (orB d1.steady k nb).toNat) = W4 at *
            obtain ⟨d3, hd3⟩ : ∃ x, { d1 with steady := orB d1.steady k nb } = x := ⟨_, rfl⟩
            rw [hd3] at T
            have Hd3 := Lib.hid hd3
            clear hd3
            have hor := or_bb d3.flash k rb
            have x2 := cell_list T.s (i := 7) (v := .int .u32 d3.flash.toNat) rfl
            have f2 := free_at T.s 7
            go_upto_region 20 with (fail)
            clear x2 f2 hor
            replace T := T.set 7 (.int .u32 (orB d3.flash k rb).toNat) (d' := { d3 with flash := orB d3.flash k rb }) rfl
            generalize W4.setCell ⟨W1.heap.size + 1, 7, none⟩ (.int .u32 (orB d3.flash k rb).toNat) = W5 at *
            obtain ⟨d4, hd4⟩ : ∃ x, { d3 with flash := orB d3.flash k rb } = x := ⟨_, rfl⟩
            rw [hd4] at T
            have Hd4 := Lib.hid hd4
            clear hd4
            obtain ⟨bb, hbb⟩ : ∃ b, (rdZ l (a + 1 + 2) 1 == 1) = b := ⟨_, rfl⟩
            have HBB := Lib.hid hbb
            clear hbb
            have hor := or_bb d4.autos k bb
            obtain ⟨z0, hz0⟩ : ∃ z : Int, (d4.autos.toNat : Int) = z := ⟨_, rfl⟩
            obtain ⟨z1, hz1⟩ : ∃ z : Int, ((bbit bb k).toNat : Int) = z := ⟨_, rfl⟩
            rw [hz0, hz1] at hor
            have HZ0 := Lib.hid hz0
            have HZ1 := Lib.hid hz1
            clear hz0 hz1
            refine wp_region_held_drew (S := (fun _ => True)) (by kernel_rfl) ?_ (fun hHeld => ?_)
            · trivial
            replace T := T.later (Below.refl _ _).drew
            refine Node.tk 0 ?_ rfl ?_ ?_
            rotate_left
            · intro w hSw; (try dsimp only at hSw); go_simp; try with_reducible rfl
            simp only [zA, zS, zZ, Act.put, zP, zQ, zR]
            refine Node.tk 2 ?_ rfl ?_ ?_
            rotate_left
            · intro w hSw; (try dsimp only at hSw); go_simp; try with_reducible rfl
            simp only [zA, zS, zZ, Act.put, zP, zQ, zR]
            refine Node.tk 3 ?_ rfl ?_ ?_
            rotate_left
            · intro w hSw; (try dsimp only at hSw); go_simp; try with_reducible rfl
            simp only [zA, zS, zZ, Act.put, zP, zQ, zR]
            clear hHeld
            refine wpAnyH_ready (rs := [1, 4]) (by kernel_rfl) (by simp) ?_
            refine AllReadyH.cons rfl (fun K hK => ?_) (AllReadyH.cons rfl (fun K hK => ?_) AllReadyH.nil)
            · skip
              have x := cell_list T.s (i := 8) (v := .int .u32 z0) (by rw [← HZ0.out]; rfl)
              go_simp
              refine hK.out _ _ trivial (fun _ => ?_)
              clear hK K
              try simp only [zA, zS, zZ, Act.put, zP, zQ, zR]
              clear x
              refine Node.on 4 rfl (fun K hK => ?_)
              refine Node.wp_fn 28 [.tmp 99, .tmp 100] _ [.pointer (some ⟨W1.heap.size, 0, none⟩), .int .i64 k] (by rfl) (by kernel_rfl) enBi.out (rbit28_c W1.heap.size v pl l N (a + 1 + 2) k _ k32 (T.rda HNL.out HSV.out HHH.out) HLL.out (by omega)) ?_
              rintro e V' ⟨⟨W2, bF, rfl⟩, rfl⟩
              refine ⟨_, rfl, ?_⟩
              rw [HBB.out, HZ1.out]
              replace T := T.num (a' := a + 1 + 2 + 1) bF
              generalize W2.setCell _ _ = W3 at *
              clear bF
              refine hK.out _ _ trivial (fun _ => ?_)
              clear hK K
              try simp only [zA, zS, zZ, Act.put, zP, zQ, zR]
              refine Node.on 5 rfl (fun K hK => ?_)
              go_simp
              refine hK.out _ _ trivial (fun _ => ?_)
              clear hK K
              try simp only [zA, zS, zZ, Act.put, zP, zQ, zR]
              have hHeld : True := trivial
              refine Node.tk 6 ?_ rfl ?_ ?_
              rotate_left
              · intro w hSw; (try dsimp only at hSw); go_simp; try with_reducible rfl
              simp only [zA, zS, zZ, Act.put, zP, zQ, zR]
              clear hHeld
              refine Node.on 7 rfl (fun K hK => ?_)
              have x := cell_list T.s (i := 8) (v := .int .u32 z0) (by rw [← HZ0.out]; rfl)
              have f := free_at T.s 8
              go_simp
              replace T := T.set 8 (.int .u32 (orB d4.autos k bb).toNat) (d' := { d4 with autos := orB d4.autos k bb }) rfl
              clear x f
              refine hK.out _ _ trivial (fun _ => ?_)
              clear hK K
              try simp only [zA, zS, zZ, Act.put, zP, zQ, zR]
              refine wpAnyH_done (by kernel_rfl) ?_ _
              obtain ⟨d5, hd5⟩ : ∃ x, { d4 with autos := orB d4.autos k bb } = x := ⟨_, rfl⟩
              rw [hd5] at T
              have Hd5 := Lib.hid hd5
              clear hd5
              go_wp2
              go_roundw
              case rel => exact ⟨k + 1, d5, a + 1 + 2 + 1, by omega, by go_num, by
                show gSig (rdZ l) k (gSigs (rdZ l) p k) = _
                rw [HG.out]
                unfold gSig
                rw [HNB.out, HRB.out, HBB.out]
                have h1 := Hd1.out
                have h3 := Hd3.out
                have h4 := Hd4.out
                have h5 := Hd5.out
                clear T
                subst h5
                subst h4
                subst h3
                subst h1
                rfl, T⟩
              case measure => simp [intOf]; omega
            · skip
              refine Node.wp_fn 28 [.tmp 99, .tmp 100] _ [.pointer (some ⟨W1.heap.size, 0, none⟩), .int .i64 k] (by rfl) (by kernel_rfl) enBi.out (rbit28_c W1.heap.size v pl l N (a + 1 + 2) k _ k32 (T.rda HNL.out HSV.out HHH.out) HLL.out (by omega)) ?_
              rintro e V' ⟨⟨W2, bF, rfl⟩, rfl⟩
              refine ⟨_, rfl, ?_⟩
              rw [HBB.out, HZ1.out]
              replace T := T.num (a' := a + 1 + 2 + 1) bF
              generalize W2.setCell _ _ = W3 at *
              clear bF
              refine hK.out _ _ trivial (fun _ => ?_)
              clear hK K
              try simp only [zA, zS, zZ, Act.put, zP, zQ, zR]
              refine Node.on 1 rfl (fun K hK => ?_)
              have x := cell_list T.s (i := 8) (v := .int .u32 z0) (by rw [← HZ0.out]; rfl)
              go_simp
              refine hK.out _ _ trivial (fun _ => ?_)
              clear hK K
              try simp only [zA, zS, zZ, Act.put, zP, zQ, zR]
              clear x
              refine Node.on 5 rfl (fun K hK => ?_)
              go_simp
              refine hK.out _ _ trivial (fun _ => ?_)
              clear hK K
              try simp only [zA, zS, zZ, Act.put, zP, zQ, zR]
              have hHeld : True := trivial
              refine Node.tk 6 ?_ rfl ?_ ?_
              rotate_left
              · intro w hSw; (try dsimp only at hSw); go_simp; try with_reducible rfl
              simp only [zA, zS, zZ, Act.put, zP, zQ, zR]
              clear hHeld
              refine Node.on 7 rfl (fun K hK => ?_)
              have x := cell_list T.s (i := 8) (v := .int .u32 z0) (by rw [← HZ0.out]; rfl)
              have f := free_at T.s 8
              go_simp
              replace T := T.set 8 (.int .u32 (orB d4.autos k bb).toNat) (d' := { d4 with autos := orB d4.autos k bb }) rfl
              clear x f
              refine hK.out _ _ trivial (fun _ => ?_)
              clear hK K
              try simp only [zA, zS, zZ, Act.put, zP, zQ, zR]
              refine wpAnyH_done (by kernel_rfl) ?_ _
              obtain ⟨d5, hd5⟩ : ∃ x, { d4 with autos := orB d4.autos k bb } = x := ⟨_, rfl⟩
              rw [hd5] at T
              have Hd5 := Lib.hid hd5
              clear hd5
              go_wp2
              go_roundw
              case rel => exact ⟨k + 1, d5, a + 1 + 2 + 1, by omega, by go_num, by
                show gSig (rdZ l) k (gSigs (rdZ l) p k) = _
                rw [HG.out]
                unfold gSig
                rw [HNB.out, HRB.out, HBB.out]
                have h1 := Hd1.out
                have h3 := Hd3.out
                have h4 := Hd4.out
                have h5 := Hd5.out
                clear T
                subst h5
                subst h4
                subst h3
                subst h1
                rfl, T⟩
              case measure => simp [intOf]; omega
        · obtain rfl : k = m2 := by omega
          have i4 : decide (k < k) = false := decide_eq_false (by omega)
          go_upto_region 21 with (fail)
          go_wp2_with fail
          refine (number28_c W1.heap.size v pl l N a 3 3 _ rfl (T.rda HNL.out HSV.out HHH.out) HLL.out (by omega) (by omega)).mono ?_
          rintro e V' ⟨⟨W2, bF, rfl⟩, rfl⟩
          replace T := T.num (a' := a + 3) bF
          generalize W2.setCell _ _ = W3 at *
          clear bF
          obtain ⟨r1, hr1⟩ : ∃ r : Int, ((rdZ l a 3 : Nat) : Int) = r := ⟨_, rfl⟩
          have hr1b : 0 ≤ r1 ∧ r1 < 8 := by have := rdZ_lt l a 3; omega
          have HR1 := Lib.hid hr1
          rw [hr1]
          clear hr1
          have hw1 : IntKind.u8.wrap r1 = r1 := Bv.wrap_small .u8 rfl hr1b.1 (show r1 < (2 : Int) ^ 8 by omega)
          have x9 := cell_list T.s (i := 9) (v := .int .u8 d.code) rfl
          have f9 := free_at T.s 9
          go_upto_region 22 with (fail)
          clear x9 f9 hw1
          replace T := T.set 9 (.int .u8 r1) (d' := { d with code := r1 }) rfl
          generalize World.setCell _ ⟨W1.heap.size + 1, 9, none⟩ (.int .u8 r1) = W4 at *
          obtain ⟨d1, hd1⟩ : ∃ x, { d with code := r1 } = x := ⟨_, rfl⟩
          rw [hd1] at T
          have Hd1 := Lib.hid hd1
          clear hd1
          go_wp2_with fail
          refine (number28_c W1.heap.size v pl l N (a + 3) 3 3 _ rfl (T.rda HNL.out HSV.out HHH.out) HLL.out (by omega) (by omega)).mono ?_
          rintro e V' ⟨⟨W2', bF, rfl⟩, rfl⟩
          replace T := T.num (a' := a + 3 + 3) bF
          generalize W2'.setCell _ _ = W3 at *
          clear bF
          obtain ⟨r2, hr2⟩ : ∃ r : Int, ((rdZ l (a + 3) 3 : Nat) : Int) = r := ⟨_, rfl⟩
          have HR2 := Lib.hid hr2
          rw [hr2]
          clear hr2
          have x10 := cell_list T.s (i := 10) (v := .int .i64 d1.waiting) rfl
          have f10 := free_at T.s 10
          go_upto_region 23 with (fail)
          clear x10 f10
          replace T := T.set 10 (.int .i64 r2) (d' := { d1 with waiting := r2 }) rfl
          generalize World.setCell _ ⟨W1.heap.size + 1, 10, none⟩ (.int .i64 r2) = W5 at *
          obtain ⟨d2, hd2⟩ : ∃ x, { d1 with waiting := r2 } = x := ⟨_, rfl⟩
          rw [hd2] at T
          have Hd2 := Lib.hid hd2
          clear hd2
          go_wp2_with fail
          refine (number28_c W1.heap.size v pl l N (a + 3 + 3) 8 8 _ rfl (T.rda HNL.out HSV.out HHH.out) HLL.out (by omega) (by omega)).mono ?_
          rintro e V' ⟨⟨W2'', bF, rfl⟩, rfl⟩
          replace T := T.num (a' := a + 3 + 3 + 8) bF
          generalize W2''.setCell _ _ = W3 at *
          clear bF
          obtain ⟨r3, hr3⟩ : ∃ r : Int, ((rdZ l (a + 3 + 3) 8 : Nat) : Int) = r := ⟨_, rfl⟩
          have HR3 := Lib.hid hr3
          rw [hr3]
          clear hr3
          have x11 := cell_list T.s (i := 11) (v := .int .i64 d2.errors) rfl
          have f11 := free_at T.s 11
          go_upto_region 24 with (fail)
          clear x11 f11
          replace T := T.set 11 (.int .i64 r3) (d' := { d2 with errors := r3 }) rfl
          generalize World.setCell _ ⟨W1.heap.size + 1, 11, none⟩ (.int .i64 r3) = W6 at *
          obtain ⟨dd, hdd⟩ : ∃ x, { d2 with errors := r3 } = x := ⟨_, rfl⟩
          rw [hdd] at T
          have hdec : gDec (rdZ (bitsOf pl)) kinds nsig = dd := by
            unfold gDec
            rw [HLB.out, HM1.out, HM2.out, HGP.out, hg]
            unfold gEnd
            rw [HR1.out, HR2.out, HR3.out, ← hdd, ← Hd2.out, ← Hd1.out]
          have hcode : 0 ≤ dd.code ∧ dd.code ≤ 255 := by
            have e : dd.code = r1 := by rw [← hdd, ← Hd2.out, ← Hd1.out]
            rw [e]; omega
          have HDEC := Lib.hid hdec
          have HCO := Lib.hid hcode
          clear hdd hdec hcode hr1b hg
          obtain ⟨D, hD⟩ : ∃ D, showL dd = D := ⟨_, rfl⟩
          have szD : (Tryz.prog.info? 52).map (·.size) = some D.length := by rw [← hD]; exact show_size _
          have oD : D.toArray.all (·.oneCell') = true := all_one (by rw [← hD]; exact show_one _)
          have lD : D.length = 12 := by rw [← hD]; rfl
          have HDD := Lib.hid hD
          have gs6 := T.s
          rw [hD] at gs6
          have b6 := T.b
          clear hD T
          have cvp : ∀ W : World, SliceAt W 1 (.slice Au pl.length cu) pl.length (u8s pl) → (convert 53 9 (.slice Au pl.length cu)).run Tryz.prog W = .ok (.string (strOf pl)) W := fun W h => conv_str (P := Tryz.prog) (dst := 9) h Tryz.underlying53 Tryz.underlying5 Tryz.underlying9
          have CP := Lib.hid (fun (W : World) (b : Below W1.heap.size W1 W) => HDD.out ▸ refPut28_c L kinds ss nsig clr st A c A1 c1 dd W (HL1.out.later b) HCO.out)
          go_cut [120] from 114 to 119 (fun x120 wx => ∃ B2 : List (BitVec 8), x120 = .bool (!decide (B2 = pl)) ∧ Bits.Holds B2 (fbits (flds dd kinds nsig)) ∧ Below W1.heap.size W1 wx ∧ wx.heap[W1.heap.size + 1]? = some (.cells D.toArray 52 (0, 0)))
          case first =>
            refine wp_region_held_drew (S := (fun w' => w'.rangeAt w.heap.size 0 L ∧ w'.rangeAt (W1.heap.size + 1) 0 D ∧ (convert 53 9 (.slice Au pl.length cu)).run Tryz.prog w' = .ok (.string (strOf pl)) w')) (by kernel_rfl) ?_ (fun hHeld => ?_)
            · have bd : Below W1.heap.size W1 W6.drew := b6.drew
              exact ⟨range_of (var_later VL1 bd), range_of (show W6.drew.heap[W1.heap.size + 1]? = some (.cells D.toArray 52 (0, 0)) from gs6), cvp _ (HU1.out.later bd)⟩
            replace b6 : Below W1.heap.size W1 W6.drew := b6.drew
            replace gs6 : W6.drew.heap[W1.heap.size + 1]? = some (.cells D.toArray 52 (0, 0)) := gs6
            generalize W6.drew = X at *
            refine wpAnyH_take (i := 0) (v := .agg (L : List Value).toArray) rfl (by kernel_rfl) (by kernel_rfl) (by kernel_rfl) (fun _ _ _ h => h) (yieldsIf_load_mid (by kernel_rfl) 29 (.tmp 2) (by kernel_rfl) (w.heap.size) 0 (by kernel_rfl) L _ (fun w' h => h.1) (by first | exact Tryz.underlying29) rfl (by first | assumption | (simp only [*]; kernel_rfl))) (by assumption) ?_
            try simp only [zA, zS, zZ, Act.put, zP, zQ, zR]
            refine wpAnyH_take (i := 1) (v := .agg (D : List Value).toArray) rfl (by kernel_rfl) (by kernel_rfl) (by kernel_rfl) (fun _ _ _ h => h) (yieldsIf_load_mid (by kernel_rfl) 52 (.tmp 7) (by kernel_rfl) (W1.heap.size + 1) 0 (by kernel_rfl) D _ (fun w' h => h.2.1) (by first | exact Tryz.underlying52) rfl (by first | assumption | (simp only [*]; kernel_rfl))) (by assumption) ?_
            try simp only [zA, zS, zZ, Act.put, zP, zQ, zR]
            refine Node.tk 4 ?_ rfl ?_ ?_
            rotate_left
            · intro w hSw; (try dsimp only at hSw); go_simp; try with_reducible rfl
            simp only [zA, zS, zZ, Act.put, zP, zQ, zR]
            refine Node.tk 5 ?_ rfl ?_ ?_
            rotate_left
            · intro w hSw; (try dsimp only at hSw); go_simp; try with_reducible rfl
            simp only [zA, zS, zZ, Act.put, zP, zQ, zR]
            clear hHeld
            refine ready1 (i := 2) rfl (by kernel_rfl) (by kernel_rfl) (fun K hK => ?_)
            refine Node.wp_fn 13 [.tmp 114, .tmp 115] _ [.agg L.toArray, .agg D.toArray] (by rfl) (by kernel_rfl) (enters Tryz.func13 (by kernel_rfl) rfl) (CP.out _ b6) ?_
            rintro e X2 ⟨bF, A2, c2, B2, rfl, s2, hh⟩
            refine ⟨_, rfl, ?_⟩
            replace b6 := below_step b6 bF
            replace gs6 := var_later gs6 bF
            have HH2 := Lib.hid hh
            clear bF hh
            refine hK.out _ _ ⟨range_of (var_later VL1 b6), range_of gs6, cvp _ (HU1.out.later b6)⟩ (fun _ => ?_)
            clear hK K
            try simp only [zA, zS, zZ, Act.put, zP, zQ, zR]
            have cv2 : (convert 53 9 (.slice A2 B2.length c2)).run Tryz.prog X2 = .ok (.string (strOf B2)) X2 := conv_str (P := Tryz.prog) (dst := 9) s2 Tryz.underlying53 Tryz.underlying5 Tryz.underlying9
            refine strengthen (S' := fun w' => (w'.rangeAt w.heap.size 0 L ∧ w'.rangeAt (W1.heap.size + 1) 0 D ∧ (convert 53 9 (.slice Au pl.length cu)).run Tryz.prog w' = .ok (.string (strOf pl)) w') ∧ (convert 53 9 (.slice A2 B2.length c2)).run Tryz.prog w' = .ok (.string (strOf B2)) w') (fun w h => h.1) _ _ _ _ ?_
            have hHeld : (X2.rangeAt w.heap.size 0 L ∧ X2.rangeAt (W1.heap.size + 1) 0 D ∧ (convert 53 9 (.slice Au pl.length cu)).run Tryz.prog X2 = .ok (.string (strOf pl)) X2) ∧ (convert 53 9 (.slice A2 B2.length c2)).run Tryz.prog X2 = .ok (.string (strOf B2)) X2 := ⟨⟨range_of (var_later VL1 b6), range_of gs6, cvp _ (HU1.out.later b6)⟩, cv2⟩
            have hst := str_beq B2 pl
            refine Node.tk 3 ?_ rfl ?_ ?_
            rotate_left
            · intro w hSw; (try dsimp only at hSw); go_simp; try with_reducible rfl
            simp only [zA, zS, zZ, Act.put, zP, zQ, zR]
            refine Node.tk 6 ?_ rfl ?_ ?_
            rotate_left
            · intro w hSw; (try dsimp only at hSw); go_simp; try with_reducible rfl
            simp only [zA, zS, zZ, Act.put, zP, zQ, zR]
            clear hHeld
            refine wpAnyH_done (by kernel_rfl) ?_ _
            go_wp2
            go_meet
            exact ⟨B2, rfl, HH2.out, b6, gs6⟩
          case rest =>
            clear b6 gs6
            obtain ⟨B2, rfl, hB2, b6, gs6⟩ := hcut
            obtain ⟨tk1, tk2⟩ := takeZ (pl := pl) (B2 := B2) (kinds := kinds) (nsig := nsig) (by rw [HDEC.out]; exact hB2)
            rw [HDEC.out] at tk1
            have VR6 := var_later VR1 b6
            have th := there_of VR6 0 D.toArray.size (by simp only [List.size_toArray, lD]; exact Nat.le_of_eq rfl)
            have bw6 := below_step HB1.out b6
            by_cases hq : B2 = pl
            · have HT := Lib.hid (tk1 hq)
              have hqd : decide (B2 = pl) = true := decide_eq_true hq
              rw [hqd]
              have RD := range_of gs6
              have k1 : ((wc.setCells (w.heap.size + 1) 0 D.toArray.toList).heap[w.heap.size + 1]? = some (.cells D.toArray 52 (0, 0))) := by
                rw [setCells_at _ _ VR6, setL_all (by simp only [List.size_toArray, lD]; rfl)]
              have K1 := Lib.hid (And.intro k1 (below_setCells (g := w.heap.size + 1) (by omega) D.toArray.toList 0 bw6))
              clear k1 tk1 tk2 hq hqd
              go_wp2_with (first
                | refine wpList_load_k 52 (.tmp 7) (by rfl) (W1.heap.size + 1) 0 (by rfl) D _ RD Tryz.underlying52 rfl szD (by kernel_rfl) ?_
                | (refine wpList_store_mid rfl 52 (.tmp 4) (.tmp 122) (by rfl) (w.heap.size + 1) 0 D.toArray (by rfl) (by rfl) th (by simpa using szD) oD ?_; generalize hWs : World.setCells _ (w.heap.size + 1) 0 D.toArray.toList = Ws at *)
                | fail)
              refine bodyPost_ret (res_mid2 (t := 4) (u := 5) (M := D) Tryz.underlying52 rfl rfl szD rfl K1.out.1) rfl ⟨K1.out.2, dd, 0, by first | (rw [HDD.out]; done) | (rw [HDD.out]; rfl), HT.out⟩
            · have HT := Lib.hid (tk2 hq)
              have hqd : decide (B2 = pl) = false := decide_eq_false hq
              rw [hqd]
              have szB0 := show_size s0
              have k1 : ((wc.setCells (w.heap.size + 1) 0 (showL s0).toArray.toList).heap[w.heap.size + 1]? = some (.cells (showL s0).toArray 52 (0, 0))) := by
                rw [setCells_at _ _ VR6, setL_all (by first | rfl | (rw [List.size_toArray]; rfl) | simp)]
              have th0 := there_of VR6 0 (showL s0).toArray.size (by simp only [List.size_toArray]; exact Nat.le_of_eq rfl)
              have szB2 : (Tryz.prog.info? 52).map (·.size) = some (showL s0).toArray.size := by kernel_rfl
              have K1 := Lib.hid (And.intro k1 (below_setCells (g := w.heap.size + 1) (by omega) (showL s0).toArray.toList 0 bw6))
              clear k1 tk1 tk2 hq hqd
              go_wp2_with (first
                | refine wpList_bld_k 52 [] _ _ (by rfl) (by rfl) (run_none _) (by kernel_rfl) ?_
                | (refine wpList_store_mid rfl 52 (.tmp 4) (.tmp 121) (by rfl) (w.heap.size + 1) 0 (showL s0).toArray (by rfl) (by rfl) th0 szB2 (all_one (show_one _)) ?_; generalize hWs : World.setCells _ (w.heap.size + 1) 0 (showL s0).toArray.toList = Ws at *)
                | fail)
              refine bodyPost_ret (res_mid2 (t := 4) (u := 5) (M := showL s0) Tryz.underlying52 rfl rfl szB0 rfl K1.out.1) rfl ⟨K1.out.2, s0, 41, rfl, HT.out⟩
end Go.Proofs.YtppcdmbpbbjecaaGreat
namespace Go.Proofs.YtppcdmbpbbjecaaGreat
open List renaming getElem_toArray → zA, getElem_cons_succ → zS, getElem_cons_zero → zZ, setIfInBounds_toArray → zP, set_cons_zero → zQ, set_cons_succ → zR
open Go.RowKit Rf Mem Bv AM SM
attribute [local go_sem ↓] run_max2 run_min2
set_option maxHeartbeats 2000000 in
set_option maxRecDepth 100000 in
theorem waits28_c (N : List Value) (vr : Value) (rss : List (List Value)) (rq : List (Int × Nat)) (ds : Int) (dv : Nat) (au : BitVec 32) (code i : Int) (r : Bool) (w : World) (hr : r = (ds == i || rq.any fun x => x.1 == i)) (hN : NxAt w N vr rss rq ds dv au code) (hrq : rq.length ≤ 5864062014700) :
    Calls Tryz.prog 58 #[.agg N.toArray, .int .i64 i] w fun e w' => e = .returned (.bool r) ∧ Below w.heap.size w w' := by
  have b0 := below_new w (.cells N.toArray 50)
  have G := new_at (w := w) rfl (.cells N.toArray 50)
  have V := hN.later b0
  have HR := Lib.hid hr
  have hrl := hN.rq.len
  obtain ⟨Ar, cr, rfl, _⟩ := hN.rq.sl.form
  obtain ⟨m, hm⟩ : ∃ m, rss.length = m := ⟨_, rfl⟩
  have HM := Lib.hid hm
  have hm1 : m ≤ 5864062014700 := by omega
  have HST := Lib.hid (hm ▸ hN.st)
  clear hr hN hm
  go_enter Tryz.func58, Tryz.ntmps58
  go_upto_region 1 with (fail)
  generalize w.alloc (.cells N.toArray 50) = W0 at *
  go_wp2
  go_loopw [5] (fun jv wj => ∃ k2 : Nat, k2 ≤ m ∧ jv = .int .i64 k2 ∧ Hid (((rq.take k2).any fun x => x.1 == i) = false) ∧ wj = W0) (fun jv _ => m - (intOf jv).toNat)
  case atStart => exact ⟨0, Nat.zero_le _, rfl, Lib.hid rfl, rfl⟩
  case round =>
    obtain ⟨k2, hk2, rfl, HK, rfl⟩ := hrel
    have y5 := cell_list G HST.out
    by_cases hlt2 : k2 < m
    · have hml : rss.length = m := HM.out
      obtain ⟨cs2, hcs2⟩ : ∃ s, rss[k2]? = some s := ⟨_, List.getElem?_eq_getElem (by omega)⟩
      obtain ⟨r2, hr2⟩ : ∃ s, rq[k2]? = some s := ⟨_, List.getElem?_eq_getElem (by omega)⟩
      obtain ⟨bq, oq, cq, hv2, hrow2⟩ := V.rq.row hcs2
      obtain ⟨g0, _⟩ := V.rq.sg k2 cs2 r2 hcs2 hr2
      obtain ⟨rfl, _, rfl⟩ := Value.slice.inj hv2
      have z0 := hrow2 0 _ g0
      rw [Nat.add_zero] at z0
      have j1 : (k2 : Int) < (m : Int) := by omega
      have j2 : decide (k2 < m) = true := decide_eq_true hlt2
      have HX := Lib.hid (any_takeP (fun x : Int × Nat => x.1 == i) rq k2 r2 hr2)
      have HMM := Lib.hid (List.mem_of_getElem? hr2)
      obtain ⟨rv, rn⟩ := r2
      simp only at z0
      obtain ⟨d, hd⟩ : ∃ d, (rv == i) = d := ⟨_, rfl⟩
      have HD := Lib.hid hd
      clear hcs2 hr2 hv2 hrow2 g0 hml
      cases d
      · go_wp2
        go_roundw
        case rel => exact ⟨k2 + 1, by omega, by go_num, Lib.hid (by rw [HX.out, HK.out]; exact HD.out), trivial⟩
        case measure => simp [intOf]; omega
      · go_wp2
        go_ret
        refine ⟨?_, b0⟩
        rw [HR.out, List.any_eq_true.2 ⟨_, HMM.out, HD.out⟩, Bool.or_true]; rfl
    · obtain rfl : k2 = m := by omega
      have j2 : decide (k2 < k2) = false := decide_eq_false (by omega)
      have hml : rss.length = k2 := HM.out
      have e3 := HK.out
      rw [List.take_of_length_le (by omega)] at e3
      have HE := Lib.hid e3
      have x0 := cell_list G V.ds
      obtain ⟨d, hd⟩ : ∃ d, (ds == i) = d := ⟨_, rfl⟩
      have HD := Lib.hid hd
      clear e3 hml
      cases d
      all_goals
        go_wp2
        go_ret
        refine ⟨?_, b0⟩
        rw [HR.out, HE.out, HD.out]; rfl
set_option maxHeartbeats 2000000 in
set_option maxRecDepth 100000 in
theorem held28_c (K : List Value) (vh : Value) (css : List (List Value)) (hs : List HeldM) (nx : Int) (ms : List (Int × Int × Bool)) (i : Int) (r : Bool) (w : World) (hr : r = hs.any fun h => h.sig == i) (hK : KerAt w K vh css hs nx ms) (hlen : hs.length ≤ 5864062014700) :
    Calls Tryz.prog 57 #[.agg K.toArray, .int .i64 i] w fun e w' => e = .returned (.bool r) ∧ Below w.heap.size w w' := by
  have b0 := below_new w (.cells K.toArray 41)
  have V : KB w (w.alloc (.cells K.toArray 41)) K vh css hs nx ms := ⟨b0, new_at rfl _, hK.later b0⟩
  have HR := Lib.hid hr
  have hll := hK.hs.len
  obtain ⟨Ah, ch, rfl, _⟩ := hK.hs.sl.form
  clear hr hK b0
  go_enter Tryz.func57, Tryz.ntmps57
  go_upto_region 1 with (fail)
  generalize w.alloc (.cells K.toArray 41) = W0 at *
  obtain ⟨n, hn⟩ : ∃ n, css.length = n := ⟨_, rfl⟩
  have HN := Lib.hid hn
  have HH := Lib.hid (hn ▸ V.k.held)
  have hn1 : n ≤ 5864062014700 := by omega
  clear hn hll hlen
  go_wp2
  go_loopw [5] (fun iv wr => ∃ k : Nat, k ≤ n ∧ iv = .int .i64 k ∧ wr = W0 ∧ Hid (((hs.take k).any fun h => h.sig == i) = false)) (fun iv _ => n - (intOf iv).toNat)
  case atStart => exact ⟨0, Nat.zero_le _, rfl, rfl, Lib.hid rfl⟩
  case round =>
    obtain ⟨k, hk, rfl, rfl, HKK⟩ := hrel
    have y1 := cell_list V.kb HH.out
    by_cases hlt : k < n
    · have hcl : css.length = n := HN.out
      obtain ⟨cs, hcs⟩ : ∃ s, css[k]? = some s := ⟨_, List.getElem?_eq_getElem (by omega)⟩
      obtain ⟨q, hq⟩ : ∃ s, hs[k]? = some s := ⟨_, List.getElem?_eq_getElem (by rw [← V.k.hs.len]; omega)⟩
      obtain ⟨b, off, c', hv, hrow⟩ := V.k.hs.row hcs
      have hHq := V.k.hs.at_ k cs q hcs hq
      obtain ⟨rfl, _, rfl⟩ := Value.slice.inj hv
      have i1 : (k : Int) < (n : Int) := by omega
      have i2 : decide (k < n) = true := decide_eq_true hlt
      have HC := Lib.hid hq
      have z1 := hrow 1 _ hHq.sig
      clear hcs hq hv hcl hrow hHq
      obtain ⟨sg, hsg⟩ : ∃ sg, q.sig = sg := ⟨_, rfl⟩
      rw [hsg] at z1
      have HSG := Lib.hid hsg
      clear hsg
      obtain ⟨d, hd⟩ : ∃ d, (sg == i) = d := ⟨_, rfl⟩
      have HD := Lib.hid hd
      cases d
      · go_wp2
        go_roundw
        case rel => exact ⟨k + 1, by omega, by go_num, trivial, Lib.hid (by rw [any_takeP _ hs k q HC.out, HKK.out, HSG.out, HD.out]; rfl)⟩
        case measure => simp [intOf]; omega
      · go_wp2
        go_ret
        refine ⟨?_, V.bel⟩
        rw [HR.out, List.any_eq_true.2 ⟨q, List.mem_of_getElem? HC.out, by rw [HSG.out]; exact HD.out⟩]; rfl
    · obtain rfl : k = n := by omega
      have i2 : decide (k < k) = false := decide_eq_false (by omega)
      have hcl : css.length = k := HN.out
      have hhl := V.k.hs.len
      have e := HKK.out
      rw [List.take_of_length_le (by omega)] at e
      have HE := Lib.hid e
      clear e hhl hcl
      go_wp2
      go_ret
      refine ⟨?_, V.bel⟩
      rw [HR.out, HE.out]; rfl
theorem sigW_take {cl : HeldM → Bool} {hs : List HeldM} {k : Nat} {q : HeldM} (h : hs[k]? = some q) : sigW cl (hs.take (k + 1)) = sigW cl (hs.take k) ||| sigBit (cl q) q.sig := by
  rw [List.take_add_one, h, Option.toList_some, sigW_snoc]
/-- a layout, an image, a kernel in variables of one's own -/
structure LMK (w W : World) (I : IM) (L M K : List Value) (vh : Value) (css : List (List Value)) (hs : List HeldM) (nx : Int) (ms : List (Int × Int × Bool)) : Prop where
  bel : Below w.heap.size w W
  v : V2 W w.heap.size (w.heap.size + 1) L M
  kb : W.heap[w.heap.size + 1 + 1]? = some (.cells K.toArray 41 (0, 0))
  a : IMA I L M W
  k : KerAt W K vh css hs nx ms
theorem LMK.later {w W W' : World} {I : IM} {L M K : List Value} {vh : Value} {css : List (List Value)} {hs : List HeldM} {nx : Int} {ms : List (Int × Int × Bool)} (h : LMK w W I L M K vh css hs nx ms) (b : Below W.heap.size W W') : LMK w W' I L M K vh css hs nx ms := ⟨below_step h.bel b, h.v.later b, var_later h.kb b, h.a.later b, h.k.later b⟩
set_option maxHeartbeats 4000000 in
set_option maxRecDepth 100000 in
theorem refSignals20_c (I : IM) (L M K : List Value) (vh : Value) (css : List (List Value)) (hs : List HeldM) (nx : Int) (ms : List (Int × Int × Bool)) (z : BitVec 32) (w : World) (hz : z = sigW (clearB I.stand I.occB I.litB) hs) (hA : IMA I L M w) (hK : KerAt w K vh css hs nx ms) (hlen : hs.length ≤ 5864062014700) (hsm : Few hs) :
    Calls Tryz.prog 56 #[.agg L.toArray, .agg M.toArray, .agg K.toArray] w fun e w' => e = .returned (.int .u32 z.toNat) ∧ Below w.heap.size w w' := by
  have szL := lay_size hA.f.l.len
  have szM := img_size hA.f.m.len
  obtain ⟨W0, hW0⟩ : ∃ W0, ((w.alloc (.cells L.toArray 29)).alloc (.cells M.toArray 35)).alloc (.cells K.toArray 41) = W0 := ⟨_, rfl⟩
  have B0 : Below w.heap.size w W0 := by rw [← hW0]; exact below_step (below_step (below_new _ _) (below_new _ _)) (below_new _ _)
  have V : LMK w W0 I L M K vh css hs nx ms := ⟨B0, by rw [← hW0]; exact ⟨old_at (old_at (new_at rfl _) _) _, old_at (new_at (by simp) _) _⟩, by rw [← hW0]; exact new_at (by simp) _, hA.later B0, hK.later B0⟩
  have HSM := Lib.hid hsm
  have HZ := Lib.hid hz
  have hll := hK.hs.len
  obtain ⟨Ah, ch, rfl, _⟩ := hK.hs.sl.form
  clear hA hK hsm B0 hz
  go_enter Tryz.func56, Tryz.ntmps56
  go_upto_region 1 with (fail)
  generalize ((w.alloc (.cells L.toArray 29)).alloc (.cells M.toArray 35)).alloc (.cells K.toArray 41) = W0' at *
  subst hW0
  obtain ⟨n, hn⟩ : ∃ n, css.length = n := ⟨_, rfl⟩
  have HN := Lib.hid hn
  have HH := Lib.hid (hn ▸ V.k.held)
  have hn1 : n ≤ 5864062014700 := by omega
  clear hn hll hlen
  go_wp2
  go_loopw [7, 8] (fun ov jv wr => ∃ k : Nat, k ≤ n ∧ jv = .int .i64 k ∧ ov = .int .u32 (sigW (clearB I.stand I.occB I.litB) (hs.take k)).toNat ∧ LMK w wr I L M K (.slice Ah css.length ch) css hs nx ms) (fun ov jv _ => n - (intOf jv).toNat)
  case atStart => exact ⟨0, Nat.zero_le _, rfl, rfl, V⟩
  case round =>
    clear V
    obtain ⟨k, hk, rfl, rfl, V⟩ := hrel
    obtain ⟨zo, hzo⟩ : ∃ b, sigW (clearB I.stand I.occB I.litB) (hs.take k) = b := ⟨_, rfl⟩
    rw [hzo]
    have HZO := Lib.hid hzo
    clear hzo
    have y1 := cell_list V.kb HH.out
    by_cases hlt : k < n
    · have hcl : css.length = n := HN.out
      obtain ⟨cs, hcs⟩ : ∃ s, css[k]? = some s := ⟨_, List.getElem?_eq_getElem (by omega)⟩
      obtain ⟨q, hq⟩ : ∃ s, hs[k]? = some s := ⟨_, List.getElem?_eq_getElem (by rw [← V.k.hs.len]; omega)⟩
      obtain ⟨b, off, c', hv, hrow⟩ := V.k.hs.row hcs
      have hHq := V.k.hs.at_ k cs q hcs hq
      obtain ⟨rfl, _, rfl⟩ := Value.slice.inj hv
      obtain ⟨s1, s2, s3⟩ := HSM.out q (List.mem_of_getElem? hq)
      have szS := held_size hHq.len
      have i1 : (k : Int) < (n : Int) := by omega
      have i2 : decide (k < n) = true := decide_eq_true hlt
      have z1 := hrow 1 _ hHq.sig
      have blt := World.block_lt_of_cell? _ _ (hrow 0 _ hHq.id)
      have HQ := Lib.hid hHq
      have t1 := Lib.hid (sigW_take (cl := clearB I.stand I.occB I.litB) hq)
      clear hcs hq hv hcl hHq
      obtain ⟨sg, hsg⟩ : ∃ sg, q.sig = sg := ⟨_, rfl⟩
      rw [hsg] at z1
      have HSG := Lib.hid hsg
      clear hsg
      by_cases h0 : 0 ≤ sg ∧ sg < 12
      · obtain ⟨sn, rfl⟩ := Int.eq_ofNat_of_zero_le h0.1
        have p1 : decide (0 ≤ (sn : Int)) = true := decide_eq_true h0.1
        have p2 : decide ((sn : Int) < 12) = true := decide_eq_true h0.2
        have sn12 : sn < 12 := by omega
        clear h0
        obtain ⟨cl, hcl⟩ : ∃ cl, clearB I.stand I.occB I.litB q = cl := ⟨_, rfl⟩
        have HCL := Lib.hid hcl
        clear hcl
        go_upto_region 6 with (fail)
        clear z1
        refine wp_region_held_drew (S := (fun w' => w'.rangeAt w.heap.size 0 L ∧ w'.rangeAt (w.heap.size + 1) 0 M ∧ w'.cell? ⟨w.heap.size + 1 + 1, 1, none⟩ = some (.slice (some ⟨b, off, none⟩) n ch) ∧ w'.rangeAt b (off + k * 23) cs)) (by kernel_rfl) ?_ (fun hHeld => ?_)
        · exact ⟨range_of V.v.l, range_of V.v.m, cell_list V.kb HH.out, hrow⟩
        have hr' : wr.drew.rangeAt b (off + k * 23) cs := hrow
        have bd : Below wr.heap.size wr wr.drew := (Below.refl _ wr).drew
        have HQ2 := Lib.hid (HQ.out.later bd)
        have blt' : b < wr.drew.heap.size := blt
        replace V := V.later bd
        clear hrow HQ blt bd y1
        generalize wr.drew = X at *
        refine Node.tk 0 ?_ rfl ?_ ?_
        rotate_left
        · intro w hSw; (try dsimp only at hSw); go_simp; try with_reducible rfl
        simp only [zA, zS, zZ, Act.put, zP, zQ, zR]
        refine Node.tk 1 ?_ rfl ?_ ?_
        rotate_left
        · intro w hSw; (try dsimp only at hSw); go_simp; try with_reducible rfl
        simp only [zA, zS, zZ, Act.put, zP, zQ, zR]
        refine Node.tk 2 ?_ rfl ?_ ?_
        rotate_left
        · intro w hSw; (try dsimp only at hSw); go_simp; try with_reducible rfl
        simp only [zA, zS, zZ, Act.put, zP, zQ, zR]
        refine Node.tk 3 ?_ rfl ?_ ?_
        rotate_left
        · intro w hSw; (try dsimp only at hSw); go_simp; try with_reducible rfl
        simp only [zA, zS, zZ, Act.put, zP, zQ, zR]
        refine Node.tk 4 ?_ rfl ?_ ?_
        rotate_left
        · intro w hSw; (try dsimp only at hSw); go_simp; try with_reducible rfl
        simp only [zA, zS, zZ, Act.put, zP, zQ, zR]
        refine Node.tk 5 ?_ rfl ?_ ?_
        rotate_left
        · intro w hSw; (try dsimp only at hSw); go_simp; try with_reducible rfl
        simp only [zA, zS, zZ, Act.put, zP, zQ, zR]
        refine Node.tk 6 ?_ rfl ?_ ?_
        rotate_left
        · intro w hSw; (try dsimp only at hSw); go_simp; try with_reducible rfl
        simp only [zA, zS, zZ, Act.put, zP, zQ, zR]
        refine wpAnyH_take (i := 7) (v := .agg (L : List Value).toArray) rfl (by kernel_rfl) (by kernel_rfl) (by kernel_rfl) (fun _ _ _ h => h) (yieldsIf_load_mid (by kernel_rfl) 29 (.tmp 3) (by kernel_rfl) (w.heap.size) 0 (by kernel_rfl) L _ (fun w' h => h.1) (by first | exact Tryz.underlying29) rfl (by first | assumption | (simp only [*]; kernel_rfl))) (by assumption) ?_
        try simp only [zA, zS, zZ, Act.put, zP, zQ, zR]
        refine wpAnyH_take (i := 8) (v := .agg (M : List Value).toArray) rfl (by kernel_rfl) (by kernel_rfl) (by kernel_rfl) (fun _ _ _ h => h) (yieldsIf_load_mid (by kernel_rfl) 35 (.tmp 4) (by kernel_rfl) (w.heap.size + 1) 0 (by kernel_rfl) M _ (fun w' h => h.2.1) (by first | exact Tryz.underlying35) rfl (by first | assumption | (simp only [*]; kernel_rfl))) (by assumption) ?_
        try simp only [zA, zS, zZ, Act.put, zP, zQ, zR]
        refine Node.tk 9 ?_ rfl ?_ ?_
        rotate_left
        · intro w hSw; (try dsimp only at hSw); go_simp; try with_reducible rfl
        simp only [zA, zS, zZ, Act.put, zP, zQ, zR]
        refine Node.tk 10 ?_ rfl ?_ ?_
        rotate_left
        · intro w hSw; (try dsimp only at hSw); go_simp; try with_reducible rfl
        simp only [zA, zS, zZ, Act.put, zP, zQ, zR]
        refine Node.tk 11 ?_ rfl ?_ ?_
        rotate_left
        · intro w hSw; (try dsimp only at hSw); go_simp; try with_reducible rfl
        simp only [zA, zS, zZ, Act.put, zP, zQ, zR]
        refine Node.tk 12 ?_ rfl ?_ ?_
        rotate_left
        · intro w hSw; (try dsimp only at hSw); go_simp; try with_reducible rfl
        simp only [zA, zS, zZ, Act.put, zP, zQ, zR]
        refine wpAnyH_take (i := 13) (v := .agg (cs : List Value).toArray) rfl (by kernel_rfl) (by kernel_rfl) (by kernel_rfl) (fun _ _ _ h => h) (yieldsIf_load_mid (by kernel_rfl) 75 (.tmp 36) (by kernel_rfl) (b) (off + k * 23) (by kernel_rfl) cs _ (fun w' h => h.2.2.2) (by first | exact Tryz.underlying75) rfl (by first | assumption | (simp only [*]; kernel_rfl) | kernel_rfl)) (by assumption) ?_
        simp only [zA, zS, zZ, Act.put, zP, zQ, zR]
        clear hHeld
        refine ready1 (i := 14) rfl (by kernel_rfl) (by kernel_rfl) (fun K hK => ?_)
        refine Node.wp_fn 87 [.tmp 31, .tmp 32, .tmp 37] _ [.agg L.toArray, .agg M.toArray, .agg cs.toArray] (by rfl) (by kernel_rfl) (enters Tryz.func87 (by kernel_rfl) rfl) (refClear20_c I L M cs q cl X HCL.out.symm V.a HQ2.out s1 s2 s3) ?_
        rintro e X' ⟨rfl, bF⟩
        refine ⟨_, rfl, ?_⟩
        replace V := V.later bF
        have hr := range_below hr' bF blt'
        clear bF hr' HQ2 blt'
        refine hK.out _ _ ⟨range_of V.v.l, range_of V.v.m, cell_list V.kb HH.out, hr⟩ (fun hHeld => ?_)
        clear hK K
        try simp only [zA, zS, zZ, Act.put, zP, zQ, zR]
        refine Node.tk 15 ?_ rfl ?_ ?_
        rotate_left
        · intro w hSw; (try dsimp only at hSw); go_simp; try with_reducible rfl
        simp only [zA, zS, zZ, Act.put, zP, zQ, zR]
        clear hHeld
        refine wpAnyH_done (by kernel_rfl) ?_ _
        cases cl
        · go_wp2
          go_roundw
          case rel => exact ⟨k + 1, by omega, by go_num, by rw [t1.out, HZO.out, HCL.out]; simp [sigBit], V⟩
          case measure => simp [intOf]; omega
        · have hor := or_wrap zo sn (by omega)
          have hor2 : Go.bits .or .u32 (zo.toNat : Int) (2 ^ sn % 4294967296) = ((zo ||| BitVec.twoPow 32 sn).toNat : Int) := by
            have h := hor
            rwa [show IntKind.u32.wrap ((2 : Int) ^ sn) = (2 : Int) ^ sn % 4294967296 from by simp [IntKind.wrap, IntKind.signed, IntKind.bits]] at h
          obtain ⟨zr, hzr⟩ : ∃ zr, zo ||| BitVec.twoPow 32 sn = zr := ⟨_, rfl⟩
          rw [hzr] at hor hor2
          have HZR := Lib.hid hzr
          clear hzr
          have HB := Lib.hid (show sigBit true (sn : Int) = BitVec.twoPow 32 sn by unfold sigBit; rw [if_pos (by simp; omega)]; simp)
          obtain ⟨u1, u2, _, u4⟩ := (⟨IntWalk.u64_in _ (by omega), trivial, trivial, trivial⟩ : IntKind.u64.wrap (sn : Int) = (sn : Int) ∧ True ∧ True ∧ True)
          go_wp2
          go_roundw
          case rel => exact ⟨k + 1, by omega, by go_num, by rw [t1.out, HZO.out, HCL.out, HSG.out, HB.out, HZR.out], V⟩
          case measure => simp [intOf]; omega
      · have HB := Lib.hid (show ∀ x, sigBit x sg = 0#32 by intro x; unfold sigBit; rw [if_neg]; simp; intros; omega)
        go_upto_region 6 with (fail)
        by_cases h1 : 0 ≤ sg
        · have p1 : decide (0 ≤ sg) = true := decide_eq_true h1
          have p2 : decide (sg < 12) = false := decide_eq_false (by omega)
          clear h0 h1
          refine wp_region_held_drew (S := (fun _ => True)) (by kernel_rfl) ?_ (fun hHeld => ?_)
          · trivial
          replace V := V.later (Below.refl _ wr).drew
          clear hrow HQ blt y1 z1
          generalize wr.drew = X at *
          refine Node.tk 0 ?_ rfl ?_ ?_
          rotate_left
          · intro w hSw; (try dsimp only at hSw); go_simp; try with_reducible rfl
          simp only [zA, zS, zZ, Act.put, zP, zQ, zR]
          refine Node.tk 1 ?_ rfl ?_ ?_
          rotate_left
          · intro w hSw; (try dsimp only at hSw); go_simp; try with_reducible rfl
          simp only [zA, zS, zZ, Act.put, zP, zQ, zR]
          refine Node.tk 2 ?_ rfl ?_ ?_
          rotate_left
          · intro w hSw; (try dsimp only at hSw); go_simp; try with_reducible rfl
          simp only [zA, zS, zZ, Act.put, zP, zQ, zR]
          refine Node.tk 3 ?_ rfl ?_ ?_
          rotate_left
          · intro w hSw; (try dsimp only at hSw); go_simp; try with_reducible rfl
          simp only [zA, zS, zZ, Act.put, zP, zQ, zR]
          refine Node.tk 4 ?_ rfl ?_ ?_
          rotate_left
          · intro w hSw; (try dsimp only at hSw); go_simp; try with_reducible rfl
          simp only [zA, zS, zZ, Act.put, zP, zQ, zR]
          refine Node.tk 5 ?_ rfl ?_ ?_
          rotate_left
          · intro w hSw; (try dsimp only at hSw); go_simp; try with_reducible rfl
          simp only [zA, zS, zZ, Act.put, zP, zQ, zR]
          refine Node.tk 6 ?_ rfl ?_ ?_
          rotate_left
          · intro w hSw; (try dsimp only at hSw); go_simp; try with_reducible rfl
          simp only [zA, zS, zZ, Act.put, zP, zQ, zR]
          refine Node.sk 7 rfl ?_
          refine Node.sk 8 rfl ?_
          refine Node.sk 9 rfl ?_
          refine Node.sk 10 rfl ?_
          refine Node.sk 11 rfl ?_
          refine Node.sk 12 rfl ?_
          refine Node.sk 13 rfl ?_
          refine Node.sk 14 rfl ?_
          simp only [zA, zS, zZ, Act.put, zP, zQ, zR]
          refine Node.tk 15 ?_ rfl ?_ ?_
          rotate_left
          · intro w hSw; (try dsimp only at hSw); go_simp; try with_reducible rfl
          simp only [zA, zS, zZ, Act.put, zP, zQ, zR]
          clear hHeld
          refine wpAnyH_done (by kernel_rfl) ?_ _
          go_wp2
          go_roundw
          case rel => exact ⟨k + 1, by omega, by go_num, by rw [t1.out, HZO.out, HSG.out, HB.out, BitVec.or_zero], V⟩
          case measure => simp [intOf]; omega
        · have p1 : decide (0 ≤ sg) = false := decide_eq_false h1
          clear h0 h1
          refine wp_region_held_drew (S := (fun _ => True)) (by kernel_rfl) ?_ (fun hHeld => ?_)
          · trivial
          replace V := V.later (Below.refl _ wr).drew
          clear hrow HQ blt y1 z1
          generalize wr.drew = X at *
          refine Node.tk 0 ?_ rfl ?_ ?_
          rotate_left
          · intro w hSw; (try dsimp only at hSw); go_simp; try with_reducible rfl
          simp only [zA, zS, zZ, Act.put, zP, zQ, zR]
          refine Node.tk 1 ?_ rfl ?_ ?_
          rotate_left
          · intro w hSw; (try dsimp only at hSw); go_simp; try with_reducible rfl
          simp only [zA, zS, zZ, Act.put, zP, zQ, zR]
          refine Node.tk 2 ?_ rfl ?_ ?_
          rotate_left
          · intro w hSw; (try dsimp only at hSw); go_simp; try with_reducible rfl
          simp only [zA, zS, zZ, Act.put, zP, zQ, zR]
          refine Node.sk 3 rfl ?_
          refine Node.sk 4 rfl ?_
          simp only [zA, zS, zZ, Act.put, zP, zQ, zR]
          refine Node.tk 5 ?_ rfl ?_ ?_
          rotate_left
          · intro w hSw; (try dsimp only at hSw); go_simp; try with_reducible rfl
          simp only [zA, zS, zZ, Act.put, zP, zQ, zR]
          refine Node.tk 6 ?_ rfl ?_ ?_
          rotate_left
          · intro w hSw; (try dsimp only at hSw); go_simp; try with_reducible rfl
          simp only [zA, zS, zZ, Act.put, zP, zQ, zR]
          refine Node.sk 7 rfl ?_
          refine Node.sk 8 rfl ?_
          refine Node.sk 9 rfl ?_
          refine Node.sk 10 rfl ?_
          refine Node.sk 11 rfl ?_
          refine Node.sk 12 rfl ?_
          refine Node.sk 13 rfl ?_
          refine Node.sk 14 rfl ?_
          simp only [zA, zS, zZ, Act.put, zP, zQ, zR]
          refine Node.tk 15 ?_ rfl ?_ ?_
          rotate_left
          · intro w hSw; (try dsimp only at hSw); go_simp; try with_reducible rfl
          simp only [zA, zS, zZ, Act.put, zP, zQ, zR]
          clear hHeld
          refine wpAnyH_done (by kernel_rfl) ?_ _
          go_wp2
          go_roundw
          case rel => exact ⟨k + 1, by omega, by go_num, by rw [t1.out, HZO.out, HSG.out, HB.out, BitVec.or_zero], V⟩
          case measure => simp [intOf]; omega
    · obtain rfl : k = n := by omega
      have i2 : decide (k < k) = false := decide_eq_false (by omega)
      have hcl : css.length = k := HN.out
      have hhl := V.k.hs.len
      have e1 := HZO.out
      rw [List.take_of_length_le (by omega)] at e1
      have HE1 := Lib.hid (HZ.out.trans e1)
      clear e1 hhl hcl HZO
      go_wp2
      go_ret
      exact ⟨by rw [HE1.out]; rfl, V.bel⟩
end Go.Proofs.YtppcdmbpbbjecaaGreat
namespace Go.Proofs.YtppcdmbpbbjecaaGreat
open List renaming getElem_toArray → zA, getElem_cons_succ → zS, getElem_cons_zero → zZ, setIfInBounds_toArray → zP, set_cons_zero → zQ, set_cons_succ → zR
open Go.RowKit Rf Mem Bv AM SM
attribute [local go_sem ↓] run_max2 run_min2
theorem mask_row (m : Nat) (h : m ≤ 12) : rowN (fun _ => true) m = maskN m :=
  (rowN_ok _ m (by omega)).eq ⟨fun i hi => by rw [maskN_bit m i (by omega)]; simpa using hi, fun i hi => by
    by_cases h32 : i < 32
    · rw [maskN_bit m i h32]; simpa using hi
    · exact BitVec.getLsbD_of_ge _ _ (by omega)⟩
theorem flash_row (W H : Nat → Bool) (m : Nat) (h : m ≤ 32) : rowN (fun i => !H i && W i) m = rowN W m &&& ~~~ rowN H m := by
  refine BitVec.eq_of_getLsbD_eq fun i h32 => ?_
  rw [BitVec.getLsbD_and, BitVec.getLsbD_not]
  by_cases hi : i < m
  · rw [(rowN_ok _ m h).lo i hi, (rowN_ok _ m h).lo i hi, (rowN_ok _ m h).lo i hi]
    simp only [h32, decide_true, Bool.true_and]
    cases H i <;> cases W i <;> rfl
  · rw [(rowN_ok _ m h).hi i (by omega), (rowN_ok W m h).hi i (by omega), Bool.false_and]
theorem err_rem (e : Int) : ((e.tmod 256) + 256).tmod 256 = e % 256 := by
  rcases Int.le_total 0 e with h | h
  · rw [Int.tmod_eq_emod_of_nonneg h, Int.tmod_eq_emod_of_nonneg (by omega)]; omega
  · have h1 : e.tmod 256 = -((-e) % 256) := by
      rw [← Int.tmod_eq_emod_of_nonneg (by omega), Int.neg_tmod, Int.neg_neg]
    rw [h1, Int.tmod_eq_emod_of_nonneg (by omega)]; omega
theorem mask_g (k : Nat) (hk : k ≤ 24) : IntKind.u64.wrap (k : Int) = (k : Int) ∧ IntKind.u32.wrap (2 ^ k) = ((2 ^ k : Nat) : Int) ∧ IntKind.u32.wrap (((2 ^ k : Nat) : Int) - 1) = ((maskN k).toNat : Int) := by
  have hp : 2 ^ k ≤ 2 ^ 24 := Nat.pow_le_pow_right (by omega) hk
  have hp1 : 1 ≤ 2 ^ k := Nat.one_le_two_pow
  have e1 : ((2 : Int) ^ k) = ((2 ^ k : Nat) : Int) := by norm_cast
  refine ⟨IntWalk.u64_in _ (by omega), by rw [e1]; exact Bv.wrap_small .u32 rfl (by omega) (show ((2 ^ k : Nat) : Int) < (2 : Int) ^ 32 by omega), ?_⟩
  rw [Bv.wrap_small .u32 rfl (by omega) (show ((2 ^ k : Nat) : Int) - 1 < (2 : Int) ^ 32 by omega)]
  unfold maskN
  rw [BitVec.toNat_ofNat, Nat.mod_eq_of_lt (by omega)]
  omega
/-- what Of carries -/
structure OD (w W : World) (L M K N : List Value) (d : ShowM) : Prop where
  bel : Below w.heap.size w W
  v : V2 W w.heap.size (w.heap.size + 1) L M
  kb : W.heap[w.heap.size + 1 + 1]? = some (.cells K.toArray 41 (0, 0))
  nb : W.heap[w.heap.size + 1 + 1 + 1]? = some (.cells N.toArray 50 (0, 0))
  r : W.heap[w.heap.size + 1 + 1 + 1 + 1]? = some (.cells (showL s0).toArray 52 (0, 0))
  s : W.heap[w.heap.size + 1 + 1 + 1 + 1 + 1]? = some (.cells (showL d).toArray 52 (0, 0))
theorem OD.later {w W W' : World} {L M K N : List Value} {d : ShowM} (h : OD w W L M K N d) (b : Below W.heap.size W W') : OD w W' L M K N d :=
  ⟨below_step h.bel b, h.v.later b, var_later h.kb b, var_later h.nb b, var_later h.r b, var_later h.s b⟩
theorem OD.set {w W : World} {L M K N : List Value} {d d' : ShowM} (h : OD w W L M K N d) (o : Nat) (u : Value) (e : (showL d).set o u = showL d') : OD w (W.setCell ⟨w.heap.size + 1 + 1 + 1 + 1 + 1, o, none⟩ u) L M K N d' :=
  ⟨below_set h.bel (by omega) _ _, ⟨set_far h.v.l (by simp only; omega) _, set_far h.v.m (by simp only; omega) _⟩, set_far h.kb (by simp only; omega) _, set_far h.nb (by simp only; omega) _, set_far h.r (by simp only; omega) _, by rw [set_at h.s o, List.setIfInBounds_toArray, e]⟩
theorem orB_no (z : BitVec 32) (i : Nat) : orB z i false = z := rfl
theorem of_eq28 (I : IM) (hs : List HeldM) (rq : List (Int × Nat)) (ds : Int) (au : BitVec 32) (code errs : Int) (m1 m2 : Nat) (mk z5 zo5 za8 : BitVec 32) (h12 : m2 ≤ 12) (a1 : min I.kinds.length 24 = m1) (a2 : min I.nsig 12 = m2) (a6 : maskN m2 = mk)
    (a3 : sigW (clearB I.stand I.occB I.litB) hs = z5) (a4 : z5 &&& mk = zo5) (a5 : au &&& mk = za8) :
    (⟨rowN (fun i => !I.occB i) m1, rowN (fun i => (holderM hs i).isSome) m1, rowN (fun i => pointB I.kinds i && I.stand i == 0) m1, rowN (fun i => pointB I.kinds i && I.stand i == 1) m1, rowN (fun i => pointB I.kinds i && lockedM hs i) m1, zo5, rowN (fun i => hs.any fun h => h.sig == (i : Int)) m2, rowN (fun i => !(hs.any fun h => h.sig == (i : Int)) && (ds == (i : Int) || rq.any fun r => r.1 == (i : Int))) m2, za8, code, (rq.length : Int), errs % 256⟩ : ShowM) = ofM I hs rq ds au code errs := by
  have hml : (rowN (fun _ => true) m2) = mk := (mask_row m2 h12).trans a6
  have hfl := flash_row (fun i => ds == (i : Int) || rq.any fun r => r.1 == (i : Int)) (fun i => hs.any fun h => h.sig == (i : Int)) m2 (by omega)
  unfold ofM
  rw [ShowM.mk.injEq]
  refine ⟨by rw [a1], by rw [a1], by rw [a1], by rw [a1], by rw [a1], by rw [a2, hml, a3, a4], by rw [a2], by rw [a2, ← hfl], by rw [a2, hml, a5], rfl, rfl, rfl⟩
set_option maxHeartbeats 16000000 in
set_option maxRecDepth 100000 in
theorem refOf28_c (I : IM) (L M K N : List Value) (ss : List (List Value)) (vh : Value) (css : List (List Value)) (hs : List HeldM) (nx : Int) (ms : List (Int × Int × Bool)) (vr : Value) (rss : List (List Value)) (rq : List (Int × Nat)) (ds : Int) (dv : Nat) (au : BitVec 32) (code errs : Int) (dead : Bool) (w : World)
    (hY : LY w L I.kinds ss I.nsig I.clr I.st I.A I.c I.A1 I.c1) (hA : IMA I L M w) (hK : KerAt w K vh css hs nx ms) (hlen : hs.length ≤ 5864062014700) (hsm : Few hs) (hN : NxAt w N vr rss rq ds dv au code) (hrq : rq.length ≤ 5864062014700) :
    Calls Tryz.prog 11 #[.agg L.toArray, .agg M.toArray, .agg K.toArray, .agg N.toArray, .int .i64 errs, .bool dead] w fun e w' => e = .returned (.agg (showL (if dead then s0 else ofM I hs rq ds au code errs)).toArray) ∧ Below w.heap.size w w' := by
  have szL := lay_size hA.f.l.len
  have szM := img_size hA.f.m.len
  have szK := ker_size hK.len
  have szN := nx_size hN.len
  have szS0 := show_size s0
  obtain ⟨W0, hW0⟩ : ∃ W0, (((((w.alloc (.cells L.toArray 29)).alloc (.cells M.toArray 35)).alloc (.cells K.toArray 41)).alloc (.cells N.toArray 50)).alloc (.cells (showL s0).toArray 52)).alloc (.cells (showL s0).toArray 52) = W0 := ⟨_, rfl⟩
  have T0 : OD w W0 L M K N s0 := ⟨by rw [← hW0]; exact below_step (below_step (below_step (below_step (below_step (below_new _ _) (below_new _ _)) (below_new _ _)) (below_new _ _)) (below_new _ _)) (below_new _ _),
    by rw [← hW0]; exact ⟨old_at (old_at (old_at (old_at (old_at (new_at rfl _) _) _) _) _) _, old_at (old_at (old_at (old_at (new_at (by simp) _) _) _) _) _⟩,
    by rw [← hW0]; exact old_at (old_at (old_at (new_at (by simp) _) _) _) _, by rw [← hW0]; exact old_at (old_at (new_at (by simp) _) _) _, by rw [← hW0]; exact old_at (new_at (by simp) _) _, by rw [← hW0]; exact new_at (by simp) _⟩
  rw [show showL s0 = [.int .u32 0, .int .u32 0, .int .u32 0, .int .u32 0, .int .u32 0, .int .u32 0, .int .u32 0, .int .u32 0, .int .u32 0, .int .u8 0, .int .i64 0, .int .i64 0] from rfl] at hW0
  have HY := Lib.hid hY
  have HA := Lib.hid hA
  have HK := Lib.hid hK
  have HNx := Lib.hid hN
  have HSM := Lib.hid hsm
  have HLN := Lib.hid hlen
  have HRQ := Lib.hid hrq
  clear hY hA hK hN hsm hlen hrq
  go_enter Tryz.func11, Tryz.ntmps11
  go_upto_region 2 with (fail)
  generalize (((((w.alloc (.cells L.toArray 29)).alloc (.cells M.toArray 35)).alloc (.cells K.toArray 41)).alloc (.cells N.toArray 50)).alloc (.cells #[.int .u32 0, .int .u32 0, .int .u32 0, .int .u32 0, .int .u32 0, .int .u32 0, .int .u32 0, .int .u32 0, .int .u32 0, .int .u8 0, .int .i64 0, .int .i64 0] 52)).alloc (.cells #[.int .u32 0, .int .u32 0, .int .u32 0, .int .u32 0, .int .u32 0, .int .u32 0, .int .u32 0, .int .u32 0, .int .u32 0, .int .u8 0, .int .i64 0, .int .i64 0] 52) = W0' at *
  subst hW0
  cases dead with
  | true =>
    have RD := range_of T0.s
    have th := there_of T0.r 0 (showL s0).toArray.size (by simp only [List.size_toArray]; exact Nat.le_of_eq rfl)
    have szB2 : (Tryz.prog.info? 52).map (·.size) = some (showL s0).toArray.size := by kernel_rfl
    have K1 := Lib.hid (And.intro (self_set T0.r) (below_setCells (g := w.heap.size + 1 + 1 + 1 + 1) (by omega) (showL s0).toArray.toList 0 T0.bel))
    go_wp2_with (first
      | refine wpList_load_k 52 (.tmp 13) (by rfl) (w.heap.size + 1 + 1 + 1 + 1 + 1) 0 (by rfl) (showL s0) _ RD Tryz.underlying52 rfl szS0 (by kernel_rfl) ?_
      | (refine wpList_store_mid rfl 52 (.tmp 12) (.tmp 23) (by rfl) (w.heap.size + 1 + 1 + 1 + 1) 0 (showL s0).toArray (by rfl) (by rfl) th szB2 (all_one (show_one _)) ?_; generalize hWs : World.setCells _ (w.heap.size + 1 + 1 + 1 + 1) 0 (showL s0).toArray.toList = Ws at *)
      | fail)
    exact bodyPost_ret (res_mid (t := 12) (M := showL s0) Tryz.underlying52 rfl rfl szS0 rfl K1.out.1) rfl ⟨rfl, K1.out.2⟩
  | false =>
    obtain ⟨m1, hm1⟩ : ∃ m, min I.kinds.length 24 = m := ⟨_, rfl⟩
    obtain ⟨m2, hm2⟩ : ∃ m, min I.nsig 12 = m := ⟨_, rfl⟩
    have hm24 : m1 ≤ 24 := by omega
    have hm12 : m2 ≤ 12 := by omega
    have HM1 := Lib.hid hm1
    have HM2 := Lib.hid hm2
    clear hm1 hm2
    go_upto_region 4 with (fail)
    go_wp2
    go_loopw [14] (fun iv wr => ∃ k : Nat, k ≤ m1 ∧ iv = .int .i64 k ∧ OD w wr L M K N { s0 with clear := rowN (fun i => !I.occB i) k, held := rowN (fun i => (holderM hs i).isSome) k, normal := rowN (fun i => pointB I.kinds i && I.stand i == 0) k, reverse := rowN (fun i => pointB I.kinds i && I.stand i == 1) k, locked := rowN (fun i => pointB I.kinds i && lockedM hs i) k }) (fun iv _ => m1 - (intOf iv).toNat)
    case atStart => exact ⟨0, Nat.zero_le _, rfl, T0⟩
    case round =>
      clear T0
      obtain ⟨k, hk, rfl, T⟩ := hrel
      obtain ⟨d, hd⟩ : ∃ d : ShowM, { s0 with clear := rowN (fun i => !I.occB i) k, held := rowN (fun i => (holderM hs i).isSome) k, normal := rowN (fun i => pointB I.kinds i && I.stand i == 0) k, reverse := rowN (fun i => pointB I.kinds i && I.stand i == 1) k, locked := rowN (fun i => pointB I.kinds i && lockedM hs i) k } = d := ⟨_, rfl⟩
      rw [hd] at T
      have HD := Lib.hid hd
      clear hd
      have RL := range_of T.v.l
      go_wp2_with (first
        | refine wpList_load_k 29 (.tmp 6) (by rfl) w.heap.size 0 (by rfl) L _ RL Tryz.underlying29 rfl szL (by kernel_rfl) ?_
        | fail)
      refine (sections28_c L I.kinds.length I.A I.c (m1 : Int) _ (by rw [HM1.out]) HY.out.f.sec).mono ?_
      rintro e W1 ⟨rfl, b1⟩
      replace T := T.later b1
      clear b1 RL
      by_cases hlt : k < m1
      · have i1 : (k : Int) < (m1 : Int) := by omega
        have i2 : decide (k < m1) = true := decide_eq_true hlt
        have k32 : k < 32 := by omega
        have hu : IntKind.u64.wrap (k : Int) = (k : Int) := IntWalk.u64_in _ (by omega)
        have hsh := shl_1 k k32
        have hmn : min k 32 = k := by omega
        obtain ⟨hb, hhb⟩ : ∃ b, (holderM hs k).isSome = b := ⟨_, rfl⟩
        obtain ⟨oc, hoc⟩ : ∃ b, I.occB k = b := ⟨_, rfl⟩
        obtain ⟨pb, hpb⟩ : ∃ b, pointB I.kinds k = b := ⟨_, rfl⟩
        obtain ⟨sd, hsd⟩ : ∃ b, I.stand k = b := ⟨_, rfl⟩
        obtain ⟨lk, hlk⟩ : ∃ b, lockedM hs k = b := ⟨_, rfl⟩
        have HHB := Lib.hid hhb
        have HOC := Lib.hid hoc
        have HSD := Lib.hid hsd
        have HLK := Lib.hid hlk
        have HPB := Lib.hid hpb
        clear hhb hoc hsd hlk hpb
        have RK := range_of T.kb
        go_wp2_with (first
          | refine wpList_load_k 41 (.tmp 8) (by rfl) (w.heap.size + 1 + 1) 0 (by rfl) K _ RK Tryz.underlying41 rfl szK (by kernel_rfl) ?_
          | fail)
        refine (refHolder_c K vh css hs nx ms k hb _ HHB.out.symm (HK.out.later T.bel) HLN.out HSM.out).mono ?_
        rintro e W2 ⟨b2, zz, rfl⟩
        replace T := T.later b2
        clear b2 RK hu hsh
        have RL := range_of T.v.l
        have RM := range_of T.v.m
        go_wp2_with (first
          | refine wpList_load_k 29 (.tmp 6) (by rfl) w.heap.size 0 (by rfl) L _ RL Tryz.underlying29 rfl szL (by kernel_rfl) ?_
          | refine wpList_load_k 35 (.tmp 7) (by rfl) (w.heap.size + 1) 0 (by rfl) M _ RM Tryz.underlying35 rfl szM (by kernel_rfl) ?_
          | fail)
        refine (rocc_c I L M k oc _ HOC.out.symm HA.out.f).mono ?_
        rintro e W3 ⟨rfl, b3⟩
        replace T := T.later b3
        clear b3 RL RM
        go_upto_if 43 with (fail)
        go_cut [43] from 44 to 48 (fun _ wx => OD w wx L M K N { d with clear := orB d.clear k (!oc) })
        case first =>
          have x := cell_list T.s (i := 0) (v := .int .u32 d.clear.toNat) rfl
          have f := free_at T.s 0
          have hor := or_bb d.clear k true
          cases oc
          · skip
            go_wp2
            go_meet
            exact T.set 0 (.int .u32 (orB d.clear k true).toNat) rfl
          · skip
            go_wp2
            go_meet
            exact T
        case rest =>
          clear T
          have T := hcut
          obtain ⟨d1, hd1⟩ : ∃ x, { d with clear := orB d.clear k (!oc) } = x := ⟨_, rfl⟩
          rw [hd1] at T
          have Hd1 := Lib.hid hd1
          clear hd1 hcut
          go_upto_if 49 with (fail)
          go_cut [49] from 50 to 54 (fun _ wx => OD w wx L M K N { d1 with held := orB d1.held k hb })
          case first =>
            have x := cell_list T.s (i := 1) (v := .int .u32 d1.held.toNat) rfl
            have f := free_at T.s 1
            have hor := or_bb d1.held k true
            cases hb
            · skip
              go_wp2
              go_meet
              exact T
            · skip
              go_wp2
              go_meet
              exact T.set 1 (.int .u32 (orB d1.held k true).toNat) rfl
          case rest =>
            clear T
            have T := hcut
            obtain ⟨d2, hd2⟩ : ∃ x, { d1 with held := orB d1.held k hb } = x := ⟨_, rfl⟩
            rw [hd2] at T
            have Hd2 := Lib.hid hd2
            clear hd2 hcut
            obtain ⟨zk, hzk⟩ : ∃ z, I.kinds[k]? = some z := ⟨_, List.getElem?_eq_getElem (by have := HM1.out; omega)⟩
            have hzp : (zk == 2) = pb := by rw [← HPB.out, pointB, List.getD_eq_getElem?_getD, hzk]; rfl
            have hkl : k < I.kinds.length := by have := HM1.out; omega
            have LYw := HY.out.later T.bel
            obtain ⟨A', c', hv, hc0, hc1, hsl⟩ := LYw.sa
            obtain ⟨bs, off, hA', hlb, hcell⟩ := hsl.resolve_left (by omega)
            have y0 := hcell k zk hzk
            have yA := cell_list T.v.l HY.out.f.sec
            obtain ⟨rfl, _, rfl⟩ := Value.slice.inj hv
            rw [hA'] at yA
            have ii : (k : Int) < (I.kinds.length : Int) := by omega
            clear hv hsl hcell hzk LYw hlb hc0 hc1
            have hrow : ∀ (Q : Nat → Bool), rowN Q (k + 1) = orB (rowN Q k) k (Q k) := fun Q => rfl
            have HROW := Lib.hid hrow
            clear hrow
            cases pb
            · go_wp2
              go_roundw
              case rel => exact ⟨k + 1, by omega, by go_num, by
                rw [HROW.out, HROW.out, HROW.out, HROW.out, HROW.out]
                simp only [HHB.out, HOC.out, HPB.out, Bool.false_and, orB_no]
                have h0 := HD.out
                have h1 := Hd1.out
                have h2 := Hd2.out
                subst h0
                subst h1
                subst h2
                exact T⟩
              case measure => simp [intOf]; omega
            · go_upto_region 14 with (fail)
              clear y0 yA ii hzp
              have RL := range_of T.v.l
              have RM := range_of T.v.m
              go_wp2_with (first
                | refine wpList_load_k 29 (.tmp 6) (by rfl) w.heap.size 0 (by rfl) L _ RL Tryz.underlying29 rfl szL (by kernel_rfl) ?_
                | refine wpList_load_k 35 (.tmp 7) (by rfl) (w.heap.size + 1) 0 (by rfl) M _ RM Tryz.underlying35 rfl szM (by kernel_rfl) ?_
                | fail)
              refine (rstand_c I L M k sd _ HSD.out.symm (HA.out.later T.bel)).mono ?_
              rintro e W4 ⟨rfl, b4⟩
              replace T := T.later b4
              clear b4 RL RM
              obtain ⟨n0, hn0⟩ : ∃ b, (sd == 0) = b := ⟨_, rfl⟩
              obtain ⟨n1, hn1⟩ : ∃ b, (sd == 1) = b := ⟨_, rfl⟩
              have HN0 := Lib.hid hn0
              have HN1 := Lib.hid hn1
              go_upto_if 67 with (fail)
              go_cut [67] from 68 to 72 (fun _ wx => OD w wx L M K N { d2 with normal := orB d2.normal k n0 })
              case first =>
                have x := cell_list T.s (i := 2) (v := .int .u32 d2.normal.toNat) rfl
                have f := free_at T.s 2
                have hor := or_bb d2.normal k true
                cases n0
                · skip
                  go_wp2
                  go_meet
                  exact T
                · skip
                  go_wp2
                  go_meet
                  exact T.set 2 (.int .u32 (orB d2.normal k true).toNat) rfl
              case rest =>
                clear T
                have T := hcut
                obtain ⟨d3, hd3⟩ : ∃ x, { d2 with normal := orB d2.normal k n0 } = x := ⟨_, rfl⟩
                rw [hd3] at T
                have Hd3 := Lib.hid hd3
                clear hd3 hcut
                go_upto_if 74 with (fail)
                go_cut [74] from 75 to 79 (fun _ wx => OD w wx L M K N { d3 with reverse := orB d3.reverse k n1 })
                case first =>
                  have x := cell_list T.s (i := 3) (v := .int .u32 d3.reverse.toNat) rfl
                  have f := free_at T.s 3
                  have hor := or_bb d3.reverse k true
                  cases n1
                  · skip
                    go_wp2
                    go_meet
                    exact T
                  · skip
                    go_wp2
                    go_meet
                    exact T.set 3 (.int .u32 (orB d3.reverse k true).toNat) rfl
                case rest =>
                  clear T
                  have T := hcut
                  obtain ⟨d4, hd4⟩ : ∃ x, { d3 with reverse := orB d3.reverse k n1 } = x := ⟨_, rfl⟩
                  rw [hd4] at T
                  have Hd4 := Lib.hid hd4
                  clear hd4 hcut
                  have RK := range_of T.kb
                  go_wp2_with (first
                    | refine wpList_load_k 41 (.tmp 8) (by rfl) (w.heap.size + 1 + 1) 0 (by rfl) K _ RK Tryz.underlying41 rfl szK (by kernel_rfl) ?_
                    | fail)
                  refine (refLocked_c K vh css hs nx ms k lk _ HLK.out.symm (HK.out.later T.bel) HLN.out HSM.out).mono ?_
                  rintro e W5 ⟨rfl, b5⟩
                  replace T := T.later b5
                  clear b5 RK
                  go_upto_if 82 with (fail)
                  cases lk
                  · go_wp2
                    go_roundw
                    case rel => exact ⟨k + 1, by omega, by go_num, by
                      rw [HROW.out, HROW.out, HROW.out, HROW.out, HROW.out]
                      simp only [HHB.out, HOC.out, HPB.out, HSD.out, HLK.out, HN0.out, HN1.out, Bool.true_and, orB_no]
                      have h0 := HD.out
                      have h1 := Hd1.out
                      have h2 := Hd2.out
                      have h3 := Hd3.out
                      have h4 := Hd4.out
                      subst h0
                      subst h1
                      subst h2
                      subst h3
                      subst h4
                      exact T⟩
                    case measure => simp [intOf]; omega
                  · have x := cell_list T.s (i := 4) (v := .int .u32 d4.locked.toNat) rfl
                    have f := free_at T.s 4
                    have hor := or_bb d4.locked k true
                    have T2 := T.set 4 (.int .u32 (orB d4.locked k true).toNat) (d' := { d4 with locked := orB d4.locked k true }) rfl
                    have HT2 := Lib.hid T2
                    clear T2
                    go_wp2
                    go_roundw
                    case rel => exact ⟨k + 1, by omega, by go_num, by
                      rw [HROW.out, HROW.out, HROW.out, HROW.out, HROW.out]
                      simp only [HHB.out, HOC.out, HPB.out, HSD.out, HLK.out, HN0.out, HN1.out, Bool.true_and, orB_no]
                      have h0 := HD.out
                      have h1 := Hd1.out
                      have h2 := Hd2.out
                      have h3 := Hd3.out
                      have h4 := Hd4.out
                      subst h0
                      subst h1
                      subst h2
                      subst h3
                      subst h4
                      exact HT2.out⟩
                    case measure => simp [intOf]; omega
      · obtain rfl : k = m1 := by omega
        have i2 : decide (k < k) = false := decide_eq_false (by omega)
        go_upto_region 21 with (fail)
        have RL := range_of T.v.l
        go_wp2_with (first
          | refine wpList_load_k 29 (.tmp 6) (by rfl) w.heap.size 0 (by rfl) L _ RL Tryz.underlying29 rfl szL (by kernel_rfl) ?_
          | fail)
        refine (signals28_c L I.nsig I.A1 I.c1 (m2 : Int) _ (by rw [HM2.out]) HY.out.f.sig).mono ?_
        rintro e W2 ⟨rfl, b2⟩
        replace T := T.later b2
        clear b2 RL
        obtain ⟨u1, u2, u3⟩ := mask_g m2 (by omega)
        obtain ⟨p2, hp2⟩ : ∃ p : Nat, 2 ^ m2 = p := ⟨_, rfl⟩
        rw [hp2] at u2 u3
        obtain ⟨mk, hmk⟩ : ∃ z, maskN m2 = z := ⟨_, rfl⟩
        rw [hmk] at u3
        have HMK := Lib.hid hmk
        have hmn2 : min m2 32 = m2 := by omega
        clear hp2 hmk
        go_upto_region 22 with (fail)
        clear u1 u2 u3
        obtain ⟨z5, hz5⟩ : ∃ z, sigW (clearB I.stand I.occB I.litB) hs = z := ⟨_, rfl⟩
        have HZ5 := Lib.hid hz5
        obtain ⟨zo5, hzo5⟩ : ∃ z, z5 &&& mk = z := ⟨_, rfl⟩
        have han : Go.bits .and .u32 (z5.toNat : Int) (mk.toNat : Int) = (zo5.toNat : Int) := (Bv.bits_and .u32 rfl z5 mk).trans (congrArg (fun z : BitVec 32 => (z.toNat : Int)) hzo5)
        have HZO5 := Lib.hid hzo5
        clear hz5 hzo5
        have RL := range_of T.v.l
        have RM := range_of T.v.m
        have RK := range_of T.kb
        go_wp2_with (first
          | refine wpList_load_k 29 (.tmp 6) (by rfl) w.heap.size 0 (by rfl) L _ RL Tryz.underlying29 rfl szL (by kernel_rfl) ?_
          | refine wpList_load_k 35 (.tmp 7) (by rfl) (w.heap.size + 1) 0 (by rfl) M _ RM Tryz.underlying35 rfl szM (by kernel_rfl) ?_
          | refine wpList_load_k 41 (.tmp 8) (by rfl) (w.heap.size + 1 + 1) 0 (by rfl) K _ RK Tryz.underlying41 rfl szK (by kernel_rfl) ?_
          | fail)
        refine (refSignals20_c I L M K vh css hs nx ms z5 _ HZ5.out.symm (HA.out.later T.bel) (HK.out.later T.bel) HLN.out HSM.out).mono ?_
        rintro e W3 ⟨rfl, b3⟩
        replace T := T.later b3
        clear b3 RL RM RK
        have x := cell_list T.s (i := 5) (v := .int .u32 d.off.toNat) rfl
        have f := free_at T.s 5
        go_upto_region 23 with (fail)
        clear x f han
        replace T := T.set 5 (.int .u32 zo5.toNat) (d' := { d with off := zo5 }) rfl
        generalize W3.setCell ⟨w.heap.size + 1 + 1 + 1 + 1 + 1, 5, none⟩ (.int .u32 zo5.toNat) = W4 at *
        obtain ⟨d1, hd1⟩ : ∃ x, { d with off := zo5 } = x := ⟨_, rfl⟩
        rw [hd1] at T
        have Hd1 := Lib.hid hd1
        clear hd1
        obtain ⟨za8, hza8⟩ : ∃ z, au &&& mk = z := ⟨_, rfl⟩
        have han : Go.bits .and .u32 (au.toNat : Int) (mk.toNat : Int) = (za8.toNat : Int) := (Bv.bits_and .u32 rfl au mk).trans (congrArg (fun z : BitVec 32 => (z.toNat : Int)) hza8)
        have HZA8 := Lib.hid hza8
        clear hza8
        have xa := cell_list T.nb HNx.out.au
        have x := cell_list T.s (i := 8) (v := .int .u32 d1.autos.toNat) rfl
        have f := free_at T.s 8
        go_upto_region 24 with (fail)
        clear x f han xa
        replace T := T.set 8 (.int .u32 za8.toNat) (d' := { d1 with autos := za8 }) rfl
        generalize W4.setCell ⟨w.heap.size + 1 + 1 + 1 + 1 + 1, 8, none⟩ (.int .u32 za8.toNat) = W5 at *
        obtain ⟨d2, hd2⟩ : ∃ x, { d1 with autos := za8 } = x := ⟨_, rfl⟩
        rw [hd2] at T
        have Hd2 := Lib.hid hd2
        have TS : OD w W5 L M K N { d2 with steady := rowN (fun i => hs.any fun h => h.sig == (i : Int)) 0, flash := rowN (fun i => !(hs.any fun h => h.sig == (i : Int)) && (ds == (i : Int) || rq.any fun r => r.1 == (i : Int))) 0 } := by
          have e : ({ d2 with steady := rowN (fun i => hs.any fun h => h.sig == (i : Int)) 0, flash := rowN (fun i => !(hs.any fun h => h.sig == (i : Int)) && (ds == (i : Int) || rq.any fun r => r.1 == (i : Int))) 0 } : ShowM) = d2 := by
            rw [← hd2, ← Hd1.out, ← HD.out]; rfl
          rw [e]; exact T
        clear hd2 T
        go_wp2
        go_loopw [20] (fun iv wj => ∃ j : Nat, j ≤ m2 ∧ iv = .int .i64 j ∧ OD w wj L M K N { d2 with steady := rowN (fun i => hs.any fun h => h.sig == (i : Int)) j, flash := rowN (fun i => !(hs.any fun h => h.sig == (i : Int)) && (ds == (i : Int) || rq.any fun r => r.1 == (i : Int))) j }) (fun iv _ => m2 - (intOf iv).toNat)
        case atStart => exact ⟨0, Nat.zero_le _, rfl, TS⟩
        case round =>
          clear TS
          obtain ⟨j, hj, rfl, T⟩ := hrel
          obtain ⟨e0, he0⟩ : ∃ d : ShowM, { d2 with steady := rowN (fun i => hs.any fun h => h.sig == (i : Int)) j, flash := rowN (fun i => !(hs.any fun h => h.sig == (i : Int)) && (ds == (i : Int) || rq.any fun r => r.1 == (i : Int))) j } = d := ⟨_, rfl⟩
          rw [he0] at T
          have HE0 := Lib.hid he0
          clear he0
          have RL := range_of T.v.l
          go_wp2_with (first
            | refine wpList_load_k 29 (.tmp 6) (by rfl) w.heap.size 0 (by rfl) L _ RL Tryz.underlying29 rfl szL (by kernel_rfl) ?_
            | fail)
          refine (signals28_c L I.nsig I.A1 I.c1 (m2 : Int) _ (by rw [HM2.out]) HY.out.f.sig).mono ?_
          rintro e W6 ⟨rfl, b6⟩
          replace T := T.later b6
          clear b6 RL
          by_cases hlt2 : j < m2
          · have j1 : (j : Int) < (m2 : Int) := by omega
            have j2 : decide (j < m2) = true := decide_eq_true hlt2
            have j32 : j < 32 := by omega
            have hu : IntKind.u64.wrap (j : Int) = (j : Int) := IntWalk.u64_in _ (by omega)
            have hsh := shl_1 j j32
            have hmn : min j 32 = j := by omega
            obtain ⟨hb, hhb⟩ : ∃ b, (hs.any fun h => h.sig == (j : Int)) = b := ⟨_, rfl⟩
            obtain ⟨wb, hwb⟩ : ∃ b, (ds == (j : Int) || rq.any fun r => r.1 == (j : Int)) = b := ⟨_, rfl⟩
            have HHB := Lib.hid hhb
            have HWB := Lib.hid hwb
            clear hhb hwb
            have RK := range_of T.kb
            go_wp2_with (first
              | refine wpList_load_k 41 (.tmp 8) (by rfl) (w.heap.size + 1 + 1) 0 (by rfl) K _ RK Tryz.underlying41 rfl szK (by kernel_rfl) ?_
              | fail)
            refine (held28_c K vh css hs nx ms j hb _ HHB.out.symm (HK.out.later T.bel) HLN.out).mono ?_
            rintro e W7 ⟨rfl, b7⟩
            replace T := T.later b7
            clear b7 RK hu hsh
            have HROW := Lib.hid (fun (Q : Nat → Bool) => (show rowN Q (j + 1) = orB (rowN Q j) j (Q j) from rfl))
            cases hb
            · have RN := range_of T.nb
              go_wp2_with (first
                | refine wpList_load_k 50 (.tmp 9) (by rfl) (w.heap.size + 1 + 1 + 1) 0 (by rfl) N _ RN Tryz.underlying50 rfl szN (by kernel_rfl) ?_
                | fail)
              refine (waits28_c N vr rss rq ds dv au code j wb _ HWB.out.symm (HNx.out.later T.bel) HRQ.out).mono ?_
              rintro e W8 ⟨rfl, b8⟩
              replace T := T.later b8
              clear b8 RN
              cases wb
              · go_wp2
                go_roundw
                case rel => exact ⟨j + 1, by omega, by go_num, by
                  rw [HROW.out, HROW.out]
                  simp only [HHB.out, HWB.out, Bool.and_false, orB_no]
                  rw [HE0.out]; exact T⟩
                case measure => simp [intOf]; omega
              · have x := cell_list T.s (i := 7) (v := .int .u32 e0.flash.toNat) rfl
                have f := free_at T.s 7
                have hor := or_bb e0.flash j true
                go_wp2
                go_roundw
                case rel => exact ⟨j + 1, by omega, by go_num, by
                  rw [HROW.out, HROW.out]
                  simp only [HHB.out, HWB.out, Bool.not_false, Bool.true_and, orB_no]
                  have T2 := T.set 7 (.int .u32 (orB e0.flash j true).toNat) (d' := { e0 with flash := orB e0.flash j true }) rfl
                  have h0 := HE0.out
                  subst h0
                  exact T2⟩
                case measure => simp [intOf]; omega
            · have x := cell_list T.s (i := 6) (v := .int .u32 e0.steady.toNat) rfl
              have f := free_at T.s 6
              have hor := or_bb e0.steady j true
              go_wp2
              go_roundw
              case rel => exact ⟨j + 1, by omega, by go_num, by
                rw [HROW.out, HROW.out]
                simp only [HHB.out, Bool.not_true, Bool.false_and, orB_no]
                have T2 := T.set 6 (.int .u32 (orB e0.steady j true).toNat) (d' := { e0 with steady := orB e0.steady j true }) rfl
                have h0 := HE0.out
                subst h0
                exact T2⟩
              case measure => simp [intOf]; omega
          · obtain rfl : j = m2 := by omega
            have j2 : decide (j < j) = false := decide_eq_false (by omega)
            go_upto_region 32 with (fail)
            obtain ⟨Ar, cr, hvr, _⟩ := HNx.out.rq.sl.form
            have y44 := cell_list T.nb HNx.out.code
            have x := cell_list T.s (i := 9) (v := .int .u8 e0.code) rfl
            have f := free_at T.s 9
            go_upto_region 33 with (fail)
            clear x f y44
            replace T := T.set 9 (.int .u8 code) (d' := { e0 with code := code }) rfl
            generalize World.setCell _ ⟨w.heap.size + 1 + 1 + 1 + 1 + 1, 9, none⟩ (.int .u8 code) = W7 at *
            obtain ⟨e1, he1⟩ : ∃ x, { e0 with code := code } = x := ⟨_, rfl⟩
            rw [he1] at T
            have He1 := Lib.hid he1
            clear he1
            have y5 := cell_list T.nb HNx.out.st
            rw [hvr, HNx.out.rq.len] at y5
            have x := cell_list T.s (i := 10) (v := .int .i64 e1.waiting) rfl
            have f := free_at T.s 10
            go_upto_region 34 with (fail)
            clear x f y5 hvr
            replace T := T.set 10 (.int .i64 (rq.length : Int)) (d' := { e1 with waiting := (rq.length : Int) }) rfl
            generalize World.setCell _ ⟨w.heap.size + 1 + 1 + 1 + 1 + 1, 10, none⟩ (.int .i64 (rq.length : Int)) = W8 at *
            obtain ⟨e2, he2⟩ : ∃ x, { e1 with waiting := (rq.length : Int) } = x := ⟨_, rfl⟩
            rw [he2] at T
            have He2 := Lib.hid he2
            clear he2
            have hr := err_rem errs
            obtain ⟨er, her⟩ : ∃ z, errs.tmod 256 = z := ⟨_, rfl⟩
            rw [her] at hr
            have herb : -256 < er ∧ er < 256 := by rw [← her]; exact ⟨by have := Int.lt_tmod_of_pos errs (show (0:Int) < 256 by omega); omega, Int.tmod_lt_of_pos errs (by omega)⟩
            have hwr : wrap64 (er + 256) = er + 256 := by unfold wrap64; omega
            have x := cell_list T.s (i := 11) (v := .int .i64 e2.errors) rfl
            have f := free_at T.s 11
            go_upto_region 35 with (fail)
            clear x f her herb hwr
            replace T := T.set 11 (.int .i64 (errs % 256)) (d' := { e2 with errors := errs % 256 }) rfl
            generalize World.setCell _ ⟨w.heap.size + 1 + 1 + 1 + 1 + 1, 11, none⟩ _ = W9 at *
            have hfin : ({ e2 with errors := errs % 256 } : ShowM) = ofM I hs rq ds au code errs := by
              have h0 := HD.out
              have h1 := Hd1.out
              have h2 := Hd2.out
              have h3 := HE0.out
              have h4 := He1.out
              have h5 := He2.out
              have a0 := hm12
              have a1 := HM1.out
              have a2 := HM2.out
              have a6 := HMK.out
              have a3 := HZ5.out
              have a4 := HZO5.out
              have a5 := HZA8.out
              clear T
              subst h5
              subst h4
              subst h3
              subst h2
              subst h1
              subst h0
              exact of_eq28 I hs rq ds au code errs k j mk _ _ _ a0 a1 a2 a6 a3 a4 a5
            rw [hfin] at T
            obtain ⟨O, hO⟩ : ∃ O, showL (ofM I hs rq ds au code errs) = O := ⟨_, rfl⟩
            have szO : (Tryz.prog.info? 52).map (·.size) = some O.length := by rw [← hO]; exact show_size _
            have oO : O.toArray.all (·.oneCell') = true := all_one (by rw [← hO]; exact show_one _)
            have lO : O.length = 12 := by rw [← hO]; rfl
            have gs := T.s
            rw [hO] at gs
            have RD := range_of gs
            have th := there_of T.r 0 O.toArray.size (by simp only [List.size_toArray, lO]; exact Nat.le_of_eq rfl)
            have k1 : ((W9.setCells (w.heap.size + 1 + 1 + 1 + 1) 0 O.toArray.toList).heap[w.heap.size + 1 + 1 + 1 + 1]? = some (.cells O.toArray 52 (0, 0))) := by
              rw [setCells_at _ _ T.r, setL_all (by simp only [List.size_toArray, lO]; rfl)]
            have K1 := Lib.hid (And.intro k1 (below_setCells (g := w.heap.size + 1 + 1 + 1 + 1) (by omega) O.toArray.toList 0 T.bel))
            have HOO := Lib.hid hO
            clear k1 hO T gs hfin hr
            go_wp2_with (first
              | refine wpList_load_k 52 (.tmp 13) (by rfl) (w.heap.size + 1 + 1 + 1 + 1 + 1) 0 (by rfl) O _ RD Tryz.underlying52 rfl szO (by kernel_rfl) ?_
              | (refine wpList_store_mid rfl 52 (.tmp 12) (.tmp 142) (by rfl) (w.heap.size + 1 + 1 + 1 + 1) 0 O.toArray (by rfl) (by rfl) th (by simpa using szO) oO ?_; generalize hWs : World.setCells _ (w.heap.size + 1 + 1 + 1 + 1) 0 O.toArray.toList = Ws at *)
              | fail)
            exact bodyPost_ret (res_mid (t := 12) (M := O) Tryz.underlying52 rfl rfl szO rfl K1.out.1) rfl ⟨by rw [← HOO.out], K1.out.2⟩
end Go.Proofs.YtppcdmbpbbjecaaGreat
