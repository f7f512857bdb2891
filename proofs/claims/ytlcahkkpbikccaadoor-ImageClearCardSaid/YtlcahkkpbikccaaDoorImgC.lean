/- Images: contracts of Occupied, Told, Lit. Nothing that was there is turned. -/
import Derived.Test.YtlcahkkpbikccaaDoorImgB
namespace Go.Proofs.YtlcahkkpbikccaaDoor
open Go.RowKit Rf Mem
attribute [local go_sem ↓] run_max2 run_min2
/-- a whole variable is loaded, in a plain region, guarded or not -/
theorem wpList_load_g {P : Program} {w : World} {a : Act} {Q : Exit → Act → World → Prop} {ops : Array Oper} {rest : List Oper} {op : Oper} (hw : Region.wanted op (yielded ops a.tmps) = true) (ty : TypeId) (x : Operand) (ho : op.op = .load ty x)
    (b o : Nat) (hx : a.eval x = .pointer (some ⟨b, o, none⟩)) (cs : List Value) (d : TypeDesc) (hc : w.rangeAt b o cs)
    (hu : P.underlying ty = some d) (hd : d.isRow = true) (hi : (P.info? ty).map (·.size) = some cs.length)
    (h : wpList P ops Q rest (a.put op.dst (.agg cs.toArray)) w) : wpList P ops Q (op :: rest) a w :=
  wpList_step fun K hK => by rw [if_pos hw]; exact wp_load_mid ty x ho b o hx cs d hc hu hd hi (hK _ _ h)
/-- a layout's and an image's fields -/
structure LayF (L : List Value) (ns nsig : Nat) (clr st : Int) (A : Option Addr) (c : Nat) (A1 : Option Addr) (c1 : Nat) : Prop where
  len : L.length = 11
  sec : L[0]? = some (.slice A ns c)
  sig : L[1]? = some (.slice A1 nsig c1)
  clr : L[4]? = some (.int .i64 clr)
  st : L[6]? = some (.int .i64 st)
structure ImgF (M : List Value) (age : Int) (free : List Int) (occ nor rev lam : BitVec 32) : Prop where
  len : M.length = 29
  fl : free.length = 24
  age : M[0]? = some (.int .i64 age)
  free : ∀ (k : Nat) (z : Int), free[k]? = some z → M[1 + k]? = some (.int .i64 z)
  occ : M[25]? = some (.int .u32 occ.toNat)
  nor : M[26]? = some (.int .u32 nor.toNat)
  rev : M[27]? = some (.int .u32 rev.toNat)
  lam : M[28]? = some (.int .u32 lam.toNat)
theorem lay_size {L : List Value} (h : L.length = 11) : (Tryd.prog.info? 29).map (·.size) = some L.length := by rw [h]; kernel_rfl
theorem img_size {M : List Value} (h : M.length = 29) : (Tryd.prog.info? 39).map (·.size) = some M.length := by rw [h]; kernel_rfl
/-- two variables: a layout, an image -/
structure Two (w W : World) (L M : List Value) : Prop where
  l : W.heap[w.heap.size]? = some (.cells L.toArray 29 (0, 0))
  m : W.heap[w.heap.size + 1]? = some (.cells M.toArray 39 (0, 0))
  below : Below w.heap.size w W
theorem Two.new (w : World) (L M : List Value) : Two w ((w.alloc (.cells L.toArray 29)).alloc (.cells M.toArray 39)) L M :=
  ⟨old_at (new_at rfl _) _, new_at (by simp) _, below_step (below_new _ _) (below_new _ _)⟩
theorem Two.later {w W W' : World} {L M : List Value} (h : Two w W L M) (hb : Below W.heap.size W W') : Two w W' L M :=
  ⟨below_at hb h.l (Array.getElem?_eq_some_iff.1 h.l).1, below_at hb h.m (Array.getElem?_eq_some_iff.1 h.m).1, below_step h.below hb⟩
theorem Two.drew {w W : World} {L M : List Value} (h : Two w W L M) : Two w W.drew L M := ⟨h.l, h.m, h.below.drew⟩
theorem Two.rl {w W : World} {L M : List Value} (h : Two w W L M) : W.rangeAt w.heap.size 0 L := range_of h.l
theorem Two.rm {w W : World} {L M : List Value} (h : Two w W L M) : W.rangeAt (w.heap.size + 1) 0 M := range_of h.m
theorem Two.cl {w W : World} {L M : List Value} (h : Two w W L M) {i : Nat} {v : Value} (hv : L[i]? = some v) : W.cell? ⟨w.heap.size, i, none⟩ = some v := cell_list h.l hv
theorem Two.cm {w W : World} {L M : List Value} (h : Two w W L M) {i : Nat} {v : Value} (hv : M[i]? = some v) : W.cell? ⟨w.heap.size + 1, i, none⟩ = some v := cell_list h.m hv
/-- is it told occupied? -/
def toldV (ns : Nat) (occ : BitVec 32) (stale : Bool) (n : Int) : Bool := decide (n < min (ns : Int) 24) && (bitV occ n && !stale)
theorem bit_g (x : BitVec 32) (w : World) : Calls Tryd.prog 24 #[.int .u32 x.toNat] w fun e W' => Below w.heap.size w W' ∧ ∃ g, e = .returned (.func (.func 30) #[] #[.pointer (some ⟨g, 0, none⟩)]) ∧ W'.cell? ⟨g, 0, none⟩ = some (.int .u32 x.toNat) := by
  refine (bit_c x w).mono ?_
  rintro e W' ⟨rfl, rfl⟩
  exact ⟨below_new _ _, _, rfl, by rw [cell_at (new_at rfl _)]; rfl⟩
theorem bit1_g (g : Nat) (x : BitVec 32) (n : Int) (b : Bool) (w : World) (hb : b = bitV x n) (hg : w.cell? ⟨g, 0, none⟩ = some (.int .u32 x.toNat)) :
    Calls Tryd.prog 30 #[.int .i64 n, .pointer (some ⟨g, 0, none⟩)] w fun e w' => e = .returned (.bool b) ∧ Below w.heap.size w w' := by subst hb; exact bit1_c g x n w hg
set_option maxHeartbeats 2000000 in
set_option maxRecDepth 100000 in
theorem Told_c (L M : List Value) (ns nsig : Nat) (clr st age n : Int) (A A1 : Option Addr) (c c1 : Nat) (free : List Int) (occ nor rev lam : BitVec 32) (w : World) (hL : LayF L ns nsig clr st A c A1 c1) (hM : ImgF M age free occ nor rev lam) :
    Calls Tryd.prog 18 #[.agg L.toArray, .agg M.toArray, .int .i64 n] w fun e w' => e = .returned (.bool (toldV ns occ (decide (st < age)) n)) ∧ Below w.heap.size w w' := by
  have T := Two.new w L M
  have x0 := T.cl hL.sec
  have x1 := T.cm hM.occ
  have szL := lay_size hL.len
  have szM := img_size hM.len
  obtain ⟨s, hs⟩ : ∃ s, decide (st < age) = s := ⟨_, rfl⟩
  obtain ⟨b, hb⟩ : ∃ b, bitV occ n = b := ⟨_, rfl⟩
  have HS := Lib.hid hs.symm
  have HB := Lib.hid hb.symm
  unfold toldV
  rw [hs, hb]
  clear hs hb
  rcases hq : decide (n < min (ns : Int) 24) with _ | _
  · go_enter Tryd.func18, Tryd.ntmps18
    go_wp2
    go_ret
    exact ⟨rfl, T.below⟩
  · go_enter Tryd.func18, Tryd.ntmps18
    go_wp2_with fail
    generalize (w.alloc (.cells L.toArray 29)).alloc (.cells M.toArray 39) = W0 at *
    refine (bit_g occ _).mono ?_
    rintro e W1 ⟨b1, g, rfl, hg⟩
    replace T := T.later b1
    clear x0 x1 b1
    go_wp2_with fail
    refine (bit1_g g occ n b _ HB.out hg).mono ?_
    rintro e W2 ⟨rfl, b2⟩
    replace T := T.later b2
    clear hg b2
    have RL := T.rl
    have RM := T.rm
    cases b
    · go_wp2
      go_ret
      exact ⟨rfl, T.below⟩
    · go_wp2_with (first
        | refine wpList_load_g (by rfl) 29 (.tmp 3) (by rfl) w.heap.size 0 (by rfl) L _ RL Tryd.underlying29 rfl szL ?_
        | refine wpList_load_g (by rfl) 39 (.tmp 4) (by rfl) (w.heap.size + 1) 0 (by rfl) M _ RM Tryd.underlying39 rfl szM ?_)
      refine (Stale_g L M age st s _ HS.out hL.st hM.age).mono ?_
      rintro e W3 ⟨rfl, b3⟩
      go_wp2
      go_ret
      exact ⟨rfl, (T.later b3).below⟩
end Go.Proofs.YtlcahkkpbikccaaDoor
