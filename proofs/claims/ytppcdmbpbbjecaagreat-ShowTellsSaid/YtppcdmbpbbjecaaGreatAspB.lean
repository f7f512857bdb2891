/- Layouts too great; steps that several walks share. Nothing that was there is turned. -/
import Derived.Test.YtppcdmbpbbjecaaGreatAspI
import Derived.Test.YtppcdmbpbbjecaaGreatNode
import Derived.Deep.Cut
import Derived.Deep.CutRange
import Derived.Deep.DrawnRows
namespace Go.Proofs.YtppcdmbpbbjecaaGreat
open Go.RowKit Rf Mem Go.ChangeShapes Go.WideShapes Bv
attribute [local go_sem ↓] run_max2 run_min2
/-- cells of a row, set one by one -/
def setL (cs : Array Value) : Nat → List Value → Array Value
  | _, [] => cs
  | o, v :: r => setL (cs.setIfInBounds o v) (o + 1) r
theorem setL_size : ∀ (vs : List Value) (cs : Array Value) (o : Nat), (setL cs o vs).size = cs.size
  | [], _, _ => rfl
  | v :: r, cs, o => by rw [setL, setL_size r]; simp
theorem setL_list : ∀ (vs : List Value) (cs : Array Value) (o : Nat), o + vs.length ≤ cs.size → (setL cs o vs).toList = cs.toList.take o ++ vs ++ cs.toList.drop (o + vs.length)
  | [], cs, o, _ => by simp [setL]
  | v :: r, cs, o, h => by
    simp only [List.length_cons] at h
    rw [setL, setL_list r _ _ (by simp; omega), Array.toList_setIfInBounds]
    have h1 : (cs.toList.set o v).take (o + 1) = cs.toList.take o ++ [v] := by
      rw [List.take_add_one, List.take_set_of_le (Nat.le_refl _), List.getElem?_set_self (by simp; omega)]; rfl
    rw [h1, List.drop_set_of_lt (by omega)]
    simp [Nat.add_assoc, Nat.add_comm 1]
theorem setCells_at {g : Nat} {t : TypeId} {f : Nat × Nat} : ∀ (vs : List Value) (o : Nat) {w : World} {cs : Array Value}, w.heap[g]? = some (.cells cs t f) → (w.setCells g o vs).heap[g]? = some (.cells (setL cs o vs) t f)
  | [], _, _, _, h => h
  | v :: r, o, w, cs, h => by rw [World.setCells, setL]; exact setCells_at r (o + 1) (set_at h o v)
theorem below_setCells {B g : Nat} {a : World} (hB : B ≤ g) : ∀ (vs : List Value) (o : Nat) {w : World}, Below B a w → Below B a (w.setCells g o vs)
  | [], _, _, h => h
  | v :: r, o, w, h => by rw [World.setCells]; exact below_setCells hB r (o + 1) (h.setCell hB v)
theorem setL_all {cs : Array Value} {vs : List Value} (h : vs.length = cs.size) : setL cs 0 vs = vs.toArray := by
  apply Array.ext'
  rw [setL_list _ _ _ (by omega)]
  simp [List.drop_of_length_le (show cs.toList.length ≤ 0 + vs.length by simp; omega)]
  omega
theorem there_of {W : World} {g : Nat} {cs : Array Value} {t : TypeId} (h : W.heap[g]? = some (.cells cs t (0, 0))) (o n : Nat) (hn : o + n ≤ cs.size) : W.there g o n := fun j hj =>
  ⟨by rw [cell_at h, Array.getElem?_eq_getElem (by omega)]; rfl, free_at h _⟩
/-- a row of whole sections reads -/
def SecsR (W : World) (v : Value) (ss : List (List Value)) : Prop :=
  ∃ A c, v = .slice A ss.length c ∧ ss.length ≤ c ∧ c ≤ maxLen ∧ (∀ s ∈ ss, s.length = 11 ∧ ∀ u ∈ s, u.oneCell' = true) ∧ (ss.length = 0 ∨ ∃ b off, A = some ⟨b, off, none⟩ ∧ b < W.heap.size ∧ ∀ (k : Nat) (s : List Value), ss[k]? = some s → W.rangeAt b (off + k * 11) s)
theorem range_below {W W' : World} {b o B : Nat} {cs : List Value} (h : W.rangeAt b o cs) (hb : Below B W W') (hB : b < B) : W'.rangeAt b o cs := fun j v hv => (hb.cell (p := ⟨b, o + j, none⟩) hB).trans (h j v hv)
theorem range_keep {S : Nat → Prop} {W W' : World} {b o : Nat} {cs : List Value} (h : W.rangeAt b o cs) (hk : Keep S W W') (hb : b < W.heap.size) (hS : S b) : W'.rangeAt b o cs := fun j v hv => (World.cell?_of_block (hk.block b hb hS)).trans (h j v hv)
theorem SecsR.later {W W' : World} {v : Value} {ss : List (List Value)} (h : SecsR W v ss) (hb : Below W.heap.size W W') : SecsR W' v ss := by
  obtain ⟨A, c, rfl, h1, h2, h3, h4⟩ := h
  refine ⟨A, c, rfl, h1, h2, h3, h4.imp id ?_⟩
  rintro ⟨b, off, rfl, hlt, hc⟩
  exact ⟨b, off, rfl, Nat.lt_of_lt_of_le hlt hb.size, fun k s hk => range_below (hc k s hk) hb hlt⟩
/-- a slice of exits reads; the lengths of their overlaps -/
def ExsAt (W : World) (v : Value) (lens : List Nat) : Prop :=
  ∃ A c, v = .slice A lens.length c ∧ lens.length ≤ c ∧ c ≤ maxLen ∧ (lens.length = 0 ∨ ∃ b off, A = some ⟨b, off, none⟩ ∧ b < W.heap.size ∧ ∀ (k n : Nat), lens[k]? = some n → ∃ A' c', W.cell? ⟨b, off + k * 3 + 2, none⟩ = some (.slice A' n c'))
theorem ExsAt.later {W W' : World} {v : Value} {lens : List Nat} (h : ExsAt W v lens) (hb : Below W.heap.size W W') : ExsAt W' v lens := by
  obtain ⟨A, c, rfl, h1, h2, h3⟩ := h
  refine ⟨A, c, rfl, h1, h2, h3.imp id ?_⟩
  rintro ⟨b, off, rfl, hlt, hc⟩
  exact ⟨b, off, rfl, Nat.lt_of_lt_of_le hlt hb.size, fun k n hk => by obtain ⟨A', c', h⟩ := hc k n hk; exact ⟨A', c', (hb.cell (p := ⟨b, off + k * 3 + 2, none⟩) hlt).trans h⟩⟩
/-- is a layout too great to be asked? -/
def greatV (ns nsig nfl : Nat) (lens : List Nat) : Bool :=
  (lens.take 31).any (fun n => decide (20 < n)) || (decide (40 < ns) || (decide (30 < nsig) || (decide (30 < lens.length) || decide (40 < nfl))))
set_option maxHeartbeats 1000000 in
set_option maxRecDepth 100000 in
theorem Great_c (L : List Value) (ns nsig nfl : Nat) (lens : List Nat) (A A1 A3 : Option Addr) (c c1 c3 : Nat) (v : Value) (w : World) (h0 : L[0]? = some (.slice A ns c)) (h1 : L[1]? = some (.slice A1 nsig c1)) (h2 : L[2]? = some v) (h3 : L[3]? = some (.slice A3 nfl c3)) (hE : ExsAt w v lens) :
    Calls Tryz.prog 4 #[.agg L.toArray] w fun e w' => e = .returned (.bool (greatV ns nsig nfl lens)) ∧ Below w.heap.size w w' := by
  have b0 := below_new w (.cells L.toArray 29)
  have G0 : (w.alloc (.cells L.toArray 29)).heap[w.heap.size]? = some (.cells L.toArray 29 (0, 0)) := new_at rfl _
  have hE' := hE.later b0
  obtain ⟨Ae, ce, rfl, hce, _, hcase⟩ := hE'
  have x0 := cell_list G0 h0
  have x1 := cell_list G0 h1
  have x2 := cell_list G0 h2
  have x3 := cell_list G0 h3
  obtain ⟨r, hr⟩ : ∃ r, greatV ns nsig nfl lens = r := ⟨_, rfl⟩
  rw [hr]
  have HR := Lib.hid hr
  clear hr hE
  go_enter Tryz.func4, Tryz.ntmps4
  go_wp2
  generalize w.alloc (.cells L.toArray 29) = W0 at *
  go_loopw [3] (fun i wr => ∃ k : Nat, k ≤ lens.length ∧ k ≤ 31 ∧ i = .int .i64 k ∧ wr = W0 ∧ Hid ((lens.take k).any (fun n => decide (20 < n)) = false)) (fun i _ => 31 - (intOf i).toNat)
  case atStart => exact ⟨0, Nat.zero_le _, by omega, rfl, rfl, Lib.hid rfl⟩
  case round =>
    obtain ⟨k, hk, hk2, rfl, rfl, HK⟩ := hrel
    by_cases hlt : k < lens.length ∧ k ≤ 30
    · obtain ⟨hl1, hl2⟩ := hlt
      obtain ⟨be, oe, rfl, hbe, hcells⟩ := hcase.resolve_left (by omega)
      obtain ⟨n, hn⟩ : ∃ n, lens[k]? = some n := ⟨_, List.getElem?_eq_getElem hl1⟩
      obtain ⟨An, cn, xn⟩ := hcells k n hn
      have HN := Lib.hid hn
      have i1 : (k : Int) < (lens.length : Int) := by omega
      have q1 : decide (k < lens.length) = true := decide_eq_true hl1
      have q2 : decide ((k : Int) ≤ 30) = true := decide_eq_true (by omega)
      by_cases hg : 20 < n
      · have q3 : decide ((20 : Int) < (n : Int)) = true := decide_eq_true (by omega)
        have HG := Lib.hid hg
        clear hn hcells hg
        go_wp2
        go_ret
        refine ⟨?_, b0⟩
        have : (lens.take 31).any (fun n => decide (20 < n)) = true := by
          rw [List.any_eq_true]
          exact ⟨n, List.mem_of_getElem? (i := k) (by rw [List.getElem?_take, if_pos (by omega)]; exact HN.out), decide_eq_true HG.out⟩
        rw [← HR.out]; unfold greatV; rw [this]; rfl
      · have q3 : decide ((20 : Int) < (n : Int)) = false := decide_eq_false (by omega)
        have HG := Lib.hid (decide_eq_false hg)
        clear hn hcells hg
        go_wp2
        go_roundw
        case rel => exact ⟨k + 1, by omega, by omega, by go_num, trivial, Lib.hid (by rw [List.take_add_one, HN.out, List.any_append, HK.out]; simp [HG.out])⟩
        case measure => simp [intOf]; omega
    · have hfin : (lens.take 31).any (fun n => decide (20 < n)) = false := by
        have := HK.out
        rcases Nat.lt_or_ge k 31 with h | h
        · have e : k = lens.length := by omega
          rw [List.take_of_length_le (by omega)] at this
          rw [List.take_of_length_le (by omega)]; exact this
        · have e : k = 31 := by omega
          rwa [e] at this
      have hrb : r = (decide (40 < ns) || (decide (30 < nsig) || (decide (30 < lens.length) || decide (40 < nfl)))) := by rw [← HR.out]; unfold greatV; rw [hfin]; rfl
      have HRB := Lib.hid hrb
      have e1 : decide ((40 : Int) < (ns : Int)) = decide (40 < ns) := by rw [Bool.eq_iff_iff]; simp; omega
      have e2 : decide ((30 : Int) < (nsig : Int)) = decide (30 < nsig) := by rw [Bool.eq_iff_iff]; simp; omega
      have e3 : decide ((30 : Int) < (lens.length : Int)) = decide (30 < lens.length) := by rw [Bool.eq_iff_iff]; simp; omega
      have e4 : decide ((40 : Int) < (nfl : Int)) = decide (40 < nfl) := by rw [Bool.eq_iff_iff]; simp; omega
      have hq : (decide (k < lens.length) = false) ∨ (decide (k < lens.length) = true ∧ decide ((k : Int) ≤ 30) = false) := by
        by_cases h : k < lens.length
        · exact .inr ⟨decide_eq_true h, decide_eq_false (by omega)⟩
        · exact .inl (decide_eq_false h)
      clear hfin hrb
      generalize decide (40 < ns) = p1 at *
      generalize decide (30 < nsig) = p2 at *
      generalize decide (30 < lens.length) = p3 at *
      generalize decide (40 < nfl) = p4 at *
      rcases hq with t1 | ⟨t1, t2⟩
      all_goals
        cases p1 <;> cases p2 <;> cases p3 <;> cases p4
      all_goals
        go_wp2
        go_ret
        exact ⟨by rw [HRB.out]; rfl, b0⟩
theorem all_one {M : List Value} (h : ∀ v ∈ M, v.oneCell' = true) : M.toArray.all (·.oneCell') = true := by
  rw [List.all_toArray, List.all_eq_true]; exact h
theorem var_later {W W' : World} {g : Nat} {o : Obj} (h : W.heap[g]? = some o) (b : Below W.heap.size W W') : W'.heap[g]? = some o := below_at b h (Array.getElem?_eq_some_iff.1 h).1
theorem setCells_other {g k : Nat} : ∀ (vs : List Value) (o : Nat) {w : World}, k ≠ g → (w.setCells g o vs).heap[k]? = w.heap[k]?
  | [], _, _, _ => rfl
  | v :: r, o, w, h => by rw [World.setCells, setCells_other r (o + 1) h]; exact Below.heap_setCell w ⟨g, o, none⟩ v k h
/-- a variable is stored whole -/
theorem fill_new {V : World} {gx : Nat} {zs : Array Value} {T : TypeId} {n : Nat} {a : World} (M : List Value) (h : V.heap[gx]? = some (.cells zs T (0, 0))) (hl : M.length = zs.size) (hB : Below n a V) (hn : n ≤ gx) :
    ∃ V', V.setCells gx 0 M.toArray.toList = V' ∧ V'.heap[gx]? = some (.cells M.toArray T (0, 0)) ∧ Below n a V' ∧ (∀ k, k ≠ gx → V'.heap[k]? = V.heap[k]?) ∧ V.there gx 0 M.toArray.size :=
  ⟨_, rfl, by rw [setCells_at _ _ h, setL_all (by simpa using hl)], below_setCells hn _ _ hB, fun k hk => setCells_other _ _ hk, there_of h 0 _ (by simp [hl])⟩
theorem newv {V : World} (M : List Value) (zs : Array Value) (T : TypeId) (hl : M.length = zs.size) : ∃ V', (V.alloc (.cells zs T)).setCells V.heap.size 0 M.toArray.toList = V' ∧ V'.heap[V.heap.size]? = some (.cells M.toArray T (0, 0)) ∧ Below V.heap.size V V' ∧ (V.alloc (.cells zs T)).there V.heap.size 0 M.toArray.size := by
  obtain ⟨V', h1, h2, h3, _, h5⟩ := fill_new M (new_at (w := V) rfl (.cells zs T)) hl (below_new V _) (Nat.le_refl _)
  exact ⟨V', h1, h2, h3, h5⟩
theorem res_mid {T : TypeId} {d : TypeDesc} (hu : Tryz.prog.underlying T = some d) (hd : d.isRow = true) {fn : Func} {t : Tmp} (hf : fn.results = #[.cell t T]) {tmps : Array Value} {W : World} {g : Nat} {M : List Value} {u : TypeId} {f : Nat × Nat} (hi : (Tryz.prog.info? T).map (·.size) = some M.length)
    (hs : tmps.getD t undef = .pointer (some ⟨g, 0, none⟩)) (hg : W.heap[g]? = some (.cells M.toArray u f)) : (results fn tmps).run Tryz.prog W = .ok (.agg M.toArray) W := by
  have hs' : tmps[t]?.getD undef = .pointer (some ⟨g, 0, none⟩) := by simpa using hs
  have h := run_loadVar_mid (P := Tryz.prog) W g 0 T M _ (range_of hg) hu hd hi
  simp [results, hf, hs', asAddr, h]
/-- what is held may be said more strictly from here on -/
theorem strengthen {P : Program} {ops : Array Oper} {Q : Exit → Act → World → Prop} {md : Region.Mode} {S S' : World → Prop} (hSS : ∀ w, S' w → S w) : ∀ (fuel : Nat) (listed : Array Bool) (a : Act) (w : World), wpAnyH P md ops Q S' fuel listed a w → wpAnyH P md ops Q S fuel listed a w
  | 0, _, _, _, h => h
  | fuel + 1, _, _, _, h => ⟨h.1, fun i hi => wpOp_mono (fun a' w' h' => ⟨hSS w' h'.1, strengthen hSS fuel _ a' w' h'.2⟩) (h.2 i hi)⟩
def clamp (n top : Int) : Int := max 0 (min n top)
def onV (n by_ top : Int) : Int := min (clamp n top + max by_ 0) top
def rowV (told : Bool) (n : Int) : Int := if told then onV n 1 65535 else 0
/-- the rows behind a tick -/
def rowL (occ : BitVec 32) (stale : Bool) (free : List Int) (k : Nat) : List Int := (List.range k).map fun i : Nat => rowV (!stale && !bitV occ i) (free.getD i 0)
theorem rowL_len (occ : BitVec 32) (stale : Bool) (free : List Int) (k : Nat) : (rowL occ stale free k).length = k := by simp [rowL]
theorem rowL_succ (occ : BitVec 32) (stale : Bool) (free : List Int) (k : Nat) : rowL occ stale free (k + 1) = rowL occ stale free k ++ [rowV (!stale && !bitV occ k) (free.getD k 0)] := by simp [rowL, List.range_succ]
/-- an image with other rows -/
def withFree (M : List Value) (f : List Int) : List Value := M.take 1 ++ (ints .i64 f ++ M.drop 25)
theorem withFree_lo {M : List Value} {f : List Int} (hl : M.length = 29) : (withFree M f)[0]? = M[0]? := by
  unfold withFree; rw [List.getElem?_append_left (by simp; omega), List.getElem?_take]; simp
theorem withFree_mid {M : List Value} {f : List Int} (hl : M.length = 29) {k : Nat} {z : Int} (hk : f[k]? = some z) : (withFree M f)[1 + k]? = some (.int .i64 z) := by
  have hlt := (List.getElem?_eq_some_iff.1 hk).1
  unfold withFree
  rw [List.getElem?_append_right (by simp; omega), List.length_take, hl, show 1 + k - min 1 29 = k by omega, List.getElem?_append_left (by simpa [ints] using hlt)]
  simp [ints, hk]
theorem withFree_hi {M : List Value} {f : List Int} (hl : M.length = 29) (hf : f.length = 24) (j : Nat) : (withFree M f)[25 + j]? = M[25 + j]? := by
  unfold withFree
  rw [List.getElem?_append_right (by simp; omega), List.length_take, hl, List.getElem?_append_right (by simp [ints]; omega), List.getElem?_drop]
  congr 1
  simp [ints, hf]
  try omega
theorem ImgF.with_ {M : List Value} {age : Int} {free f : List Int} {occ nor rev lam : BitVec 32} (h : ImgF M age free occ nor rev lam) (hf : f.length = 24) : ImgF (withFree M f) age f occ nor rev lam :=
  ⟨by simp [withFree, ints, h.len, hf], hf, (withFree_lo h.len).trans h.age, fun k z hk => withFree_mid h.len hk, (withFree_hi h.len hf 0).trans h.occ, (withFree_hi h.len hf 1).trans h.nor, (withFree_hi h.len hf 2).trans h.rev, (withFree_hi h.len hf 3).trans h.lam⟩
theorem ImgF.id_ {M : List Value} {age : Int} {free : List Int} {occ nor rev lam : BitVec 32} (h : ImgF M age free occ nor rev lam) : withFree M free = M := by
  apply List.ext_getElem?
  intro i
  rcases Nat.lt_or_ge i 25 with hi | hi
  · rcases Nat.eq_zero_or_pos i with rfl | h0
    · exact withFree_lo h.len
    · obtain ⟨k, rfl⟩ : ∃ k, i = 1 + k := ⟨i - 1, by omega⟩
      obtain ⟨z, hk⟩ : ∃ z, free[k]? = some z := ⟨_, List.getElem?_eq_getElem (by rw [h.fl]; omega)⟩
      rw [withFree_mid h.len hk, h.free k _ hk]
  · obtain ⟨j, rfl⟩ : ∃ j, i = 25 + j := ⟨i - 25, by omega⟩
    exact withFree_hi h.len h.fl j
theorem ImgF.one {M : List Value} {age : Int} {free : List Int} {occ nor rev lam : BitVec 32} (h : ImgF M age free occ nor rev lam) : ∀ v ∈ M, v.oneCell' = true := by
  intro v hv
  obtain ⟨i, hi⟩ := List.getElem?_of_mem hv
  have hlt := (List.getElem?_eq_some_iff.1 hi).1
  rw [h.len] at hlt
  rcases Nat.lt_or_ge i 25 with h25 | h25
  · rcases Nat.eq_zero_or_pos i with rfl | h0
    · rw [h.age] at hi; obtain rfl := Option.some.inj hi; rfl
    · obtain ⟨k, rfl⟩ : ∃ k, i = 1 + k := ⟨i - 1, by omega⟩
      obtain ⟨z, hk⟩ : ∃ z, free[k]? = some z := ⟨_, List.getElem?_eq_getElem (by rw [h.fl]; omega)⟩
      rw [h.free k _ hk] at hi; obtain rfl := Option.some.inj hi; rfl
  · obtain ⟨j, rfl⟩ : ∃ j, i = 25 + j := ⟨i - 25, by omega⟩
    have hj : j < 4 := by omega
    match j, hj, hi with
    | 0, _, hi => rw [h.occ] at hi; obtain rfl := Option.some.inj hi; rfl
    | 1, _, hi => rw [h.nor] at hi; obtain rfl := Option.some.inj hi; rfl
    | 2, _, hi => rw [h.rev] at hi; obtain rfl := Option.some.inj hi; rfl
    | 3, _, hi => rw [h.lam] at hi; obtain rfl := Option.some.inj hi; rfl
abbrev inV (o n r l : BitVec 32) : Array Value := #[.int .u32 o.toNat, .int .u32 n.toNat, .int .u32 r.toNat, .int .u32 l.toNat]
def withIn (M : List Value) (o n r l : BitVec 32) : List Value := (((((M.set 25 (.int .u32 o.toNat)).set 26 (.int .u32 n.toNat)).set 27 (.int .u32 r.toNat)).set 28 (.int .u32 l.toNat)).set 0 (.int .i64 0))
theorem ImgF.withIn_ {M : List Value} {age : Int} {free : List Int} {occ nor rev lam : BitVec 32} (h : ImgF M age free occ nor rev lam) (o n r l : BitVec 32) : ImgF (withIn M o n r l) 0 free o n r l := by
  have hl := h.len
  refine ⟨by simp [withIn, hl], h.fl, by simp [withIn, hl], fun k z hk => ?_, by simp [withIn, List.getElem?_set, hl], by simp [withIn, List.getElem?_set, hl], by simp [withIn, List.getElem?_set, hl], by simp [withIn, List.getElem?_set, hl]⟩
  have hlt : k < 24 := by have := (List.getElem?_eq_some_iff.1 hk).1; rwa [h.fl] at this
  have h1 := h.free k z hk
  simp only [withIn, List.getElem?_set]
  rw [if_neg (by omega), if_neg (by omega), if_neg (by omega), if_neg (by omega), if_neg (by omega)]
  exact h1
end Go.Proofs.YtppcdmbpbbjecaaGreat
