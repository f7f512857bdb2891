/- Images: contracts as laws ask for them, and the six images of 'wakes'. Nothing that was there is turned. -/
import Derived.Test.YtlcahkkpbikccaaDoorImgQ
namespace Go.Proofs.YtlcahkkpbikccaaDoor
open Go.RowKit Rf Mem
attribute [local go_sem ↓] run_max2 run_min2
abbrev zL : Array Value := #[.slice none 0 0, .slice none 0 0, .slice none 0 0, .slice none 0 0, .int .i64 0, .int .i64 0, .int .i64 0, .int .i64 0, .int .i64 0, .int .i64 0, .int .i64 0]
abbrev zM : Array Value := #[.int .i64 0, .int .i64 0, .int .i64 0, .int .i64 0, .int .i64 0, .int .i64 0, .int .i64 0, .int .i64 0, .int .i64 0, .int .i64 0, .int .i64 0, .int .i64 0, .int .i64 0, .int .i64 0, .int .i64 0, .int .i64 0, .int .i64 0, .int .i64 0, .int .i64 0, .int .i64 0, .int .i64 0, .int .i64 0, .int .i64 0, .int .i64 0, .int .i64 0, .int .u32 0, .int .u32 0, .int .u32 0, .int .u32 0]
theorem new_var (W : World) (z : Array Value) (T : TypeId) (M : List Value) (h : M.length = z.size) :
    ∃ Ws, (W.alloc (.cells z T)).setCells W.heap.size 0 M.toArray.toList = Ws ∧ Ws.heap[W.heap.size]? = some (.cells M.toArray T (0, 0)) ∧ Below W.heap.size W Ws ∧ (W.alloc (.cells z T)).there W.heap.size 0 M.toArray.size :=
  ⟨_, rfl, by rw [setCells_at _ _ (new_at rfl _), setL_all (by simpa using h)], below_setCells (Nat.le_refl _) _ _ (below_new _ _), there_of (new_at rfl _) 0 _ (by simp [h])⟩
theorem var_later {W W' : World} {g : Nat} {o : Obj} (h : W.heap[g]? = some o) (b : Below W.heap.size W W') : W'.heap[g]? = some o := below_at b h (Array.getElem?_eq_some_iff.1 h).1
theorem Take_g (L M : List Value) (ns nsig : Nat) (clr st age : Int) (A A1 : Option Addr) (c c1 : Nat) (free free' : List Int) (occ nor rev lam o n r l : BitVec 32) (w : World) (hf : free' = rowL o (decide (st < 0)) free 24) (hT : Tops w) (hL : LayF L ns nsig clr st A c A1 c1) (hM : ImgF M age free occ nor rev lam) :
    Calls Tryd.prog 8 #[.agg L.toArray, .agg M.toArray, .agg (inV o n r l)] w fun e w' => Below w.heap.size w w' ∧ ∃ M' : List Value, e = .returned (.agg M'.toArray) ∧ ImgF M' 0 free' o n r l := by
  refine (Take_c L M ns nsig clr st age A A1 c c1 free occ nor rev lam o n r l w hT hL hM).mono ?_
  rintro e w' ⟨b, rfl⟩
  subst hf
  exact ⟨b, _, rfl, (hM.withIn_ o n r l).with_ (rowL_len _ _ _ _)⟩
theorem Pass_g (L M : List Value) (ns nsig : Nat) (clr st age age' : Int) (A A1 : Option Addr) (c c1 : Nat) (free free' : List Int) (occ nor rev lam : BitVec 32) (w : World) (ha : age' = onV age 1 65535) (hf : free' = rowL occ (decide (st < age')) free 24) (hT : Tops w) (hL : LayF L ns nsig clr st A c A1 c1) (hM : ImgF M age free occ nor rev lam) :
    Calls Tryd.prog 9 #[.agg L.toArray, .agg M.toArray] w fun e w' => Below w.heap.size w w' ∧ ∃ M' : List Value, e = .returned (.agg M'.toArray) ∧ ImgF M' age' free' occ nor rev lam := by
  subst hf ha
  refine (Pass_c L M ns nsig clr st age A A1 c c1 free occ nor rev lam w hT hL hM).mono ?_
  rintro e w' ⟨b, rfl⟩
  exact ⟨b, _, rfl, (hM.withAge_ _).with_ (rowL_len _ _ _ _)⟩
theorem Told_g (L M : List Value) (ns nsig : Nat) (clr st age n : Int) (A A1 : Option Addr) (c c1 : Nat) (free : List Int) (occ nor rev lam : BitVec 32) (r : Bool) (w : World) (hr : r = toldV ns occ (decide (st < age)) n) (hL : LayF L ns nsig clr st A c A1 c1) (hM : ImgF M age free occ nor rev lam) :
    Calls Tryd.prog 18 #[.agg L.toArray, .agg M.toArray, .int .i64 n] w fun e w' => e = .returned (.bool r) ∧ Below w.heap.size w w' := by subst hr; exact Told_c L M ns nsig clr st age n A A1 c c1 free occ nor rev lam w hL hM
theorem Lit_g (L M : List Value) (ns nsig : Nat) (clr st age n : Int) (A A1 : Option Addr) (c c1 : Nat) (free : List Int) (occ nor rev lam : BitVec 32) (r : Bool) (w : World) (hr : r = litV nsig lam (decide (st < age)) n) (hL : LayF L ns nsig clr st A c A1 c1) (hM : ImgF M age free occ nor rev lam) :
    Calls Tryd.prog 16 #[.agg L.toArray, .agg M.toArray, .int .i64 n] w fun e w' => e = .returned (.bool r) ∧ Below w.heap.size w w' := by subst hr; exact Lit_c L M ns nsig clr st age n A A1 c c1 free occ nor rev lam w hL hM
theorem Occupied_g (L M : List Value) (ns nsig : Nat) (clr st age n : Int) (A A1 : Option Addr) (c c1 : Nat) (free : List Int) (occ nor rev lam : BitVec 32) (r : Bool) (w : World) (hr : r = occV ns occ (decide (st < age)) free clr n) (hL : LayF L ns nsig clr st A c A1 c1) (hM : ImgF M age free occ nor rev lam) :
    Calls Tryd.prog 10 #[.agg L.toArray, .agg M.toArray, .int .i64 n] w fun e w' => e = .returned (.bool r) ∧ Below w.heap.size w w' := by subst hr; exact Occupied_c L M ns nsig clr st age n A A1 c c1 free occ nor rev lam w hL hM
theorem At_g (L M : List Value) (kinds : List Int) (ns nsig : Nat) (clr st age n : Int) (A A1 : Option Addr) (c c1 : Nat) (free : List Int) (occ nor rev lam : BitVec 32) (r : Int) (w : World) (hn : ns = kinds.length) (hr : r = atV kinds nor rev (decide (st < age)) n) (hL : LayF L ns nsig clr st A c A1 c1) (hM : ImgF M age free occ nor rev lam) (hS : SecsAt w (.slice A ns c) kinds) :
    Calls Tryd.prog 15 #[.agg L.toArray, .agg M.toArray, .int .i64 n] w fun e w' => e = .returned (.int .i64 r) ∧ Below w.heap.size w w' := by subst hr hn; exact At_c L M kinds nsig clr st age n A A1 c c1 free occ nor rev lam w hL hM hS
theorem Mask_g (L M : List Value) (ss : List (List Value)) (ns nsig : Nat) (clr st age : Int) (A A1 : Option Addr) (c c1 : Nat) (free : List Int) (occ nor rev lam : BitVec 32) (r : Int) (w : World) (hn : ns = ss.length) (hr : r = ((maskB (fun i => occV ns occ (decide (st < age)) free clr i) (min ns 24)).toNat : Int)) (hL : LayF L ns nsig clr st A c A1 c1) (hM : ImgF M age free occ nor rev lam) (hS : SecsR w (.slice A ns c) ss) :
    Calls Tryd.prog 17 #[.agg L.toArray, .agg M.toArray] w fun e w' => e = .returned (.int .u32 r) ∧ Below w.heap.size w w' := by subst hr hn; exact Mask_c L M ss nsig clr st age A A1 c c1 free occ nor rev lam w hL hM hS
theorem Right_g (M : List Value) (age : Int) (free : List Int) (occ nor rev lam : BitVec 32) (r : Bool) (w : World) (hr : r = rightI free age) (hT : Tops w) (hM : ImgF M age free occ nor rev lam) :
    Calls Tryd.prog 11 #[.agg M.toArray] w fun e w' => e = .returned (.bool r) ∧ Below w.heap.size w w' := by subst hr; exact Right_c M age free occ nor rev lam w hT hM
def fr0 : List Int := List.replicate 24 0
def frN (n : Int) : List Int := 0 :: List.replicate 23 n
theorem fr_b : frN 1 = rowL 1#32 (decide ((2 : Int) < 0)) fr0 24 := by decide +kernel
theorem fr_c : frN 2 = rowL 1#32 (decide ((2 : Int) < 0)) (frN 1) 24 := by decide +kernel
theorem fr_1 : frN 3 = rowL 1#32 (decide ((2 : Int) < 1)) (frN 2) 24 := by decide +kernel
theorem fr_2 : frN 4 = rowL 1#32 (decide ((2 : Int) < 2)) (frN 3) 24 := by decide +kernel
theorem fr_3 : fr0 = rowL 1#32 (decide ((2 : Int) < 3)) (frN 4) 24 := by decide +kernel
end Go.Proofs.YtlcahkkpbikccaaDoor
