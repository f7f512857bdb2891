/- What the law's wakes hold. No condition. -/
import Derived.Test.YtkmioplegjeopaaAspW
namespace Go.Proofs.Ytkmioplegjeopaa
open Go.RowKit Rf Mem Bv AM
attribute [local go_sem ↓] run_max2 run_min2
theorem ready1 {P : Program} {md : Region.Mode} {ops : Array Oper} {Q : Exit → Act → World → Prop} {S : World → Prop} {fuel : Nat} {listed : Array Bool} {a : Act} {w : World} {i : Nat} {o : Oper} (ho : ops[i]? = some o) (hr : Region.ready md ops listed = [i]) (hw : Region.wanted o (yielded ops a.tmps) = true)
    (h : ∀ K' : Act → World → Prop, Shut (∀ a w, S w → (S w → wpAnyH P md ops Q S fuel (listed.setIfInBounds i true) a w) → K' a w) → Oper.wp P o a w K' Q) : wpAnyH P md ops Q S (fuel + 1) listed a w :=
  wpAnyH_ready hr (by simp) (AllReadyH.cons ho (fun K' hK => by rw [if_pos hw]; exact h K' hK) AllReadyH.nil)
def mV (m : Int × Int × Bool) : List Value := [.int .i64 m.1, .int .i64 m.2.1, .bool m.2.2]
abbrev ms0 : List (Int × Int × Bool) := List.replicate 24 (0, 0, false)
def machL : List Value := ms0.flatMap mV
theorem machL_len : machL.length = 72 := by decide
theorem machL_one : ∀ u ∈ machL, u.oneCell' = true := fun u hu => by
  simp only [machL, List.mem_flatMap, mV] at hu
  obtain ⟨p, _, h⟩ := hu
  simp at h
  rcases h with rfl | rfl | rfl <;> rfl
theorem mach_at (nx : Int) (v : Value) (i : Nat) (m : Int × Int × Bool) (h : ms0[i]? = some m) : (kcL nx v machL)[2 + 3 * i]? = some (.int .i64 m.1) ∧ (kcL nx v machL)[2 + 3 * i + 1]? = some (.int .i64 m.2.1) ∧ (kcL nx v machL)[2 + 3 * i + 2]? = some (.bool m.2.2) := by
  have hg : ∀ j u, j < 3 → (mV m)[j]? = some u → (kcL nx v machL)[2 + 3 * i + j]? = some u := fun j u hj hu => by
    rw [show 2 + 3 * i + j = (i * 3 + j) + 1 + 1 by omega, List.getElem?_cons_succ, List.getElem?_cons_succ, machL, flatMap_get (sz := 3) (fun a _ => rfl) i j hj, h]; exact hu
  exact ⟨by have := hg 0 _ (by omega) rfl; simpa using this, hg 1 _ (by omega) rfl, hg 2 _ (by omega) rfl⟩
theorem ker_at (W : World) (nx : Int) (v : Value) (css : List (List Value)) (hs : List HeldM) (h : HsAt W v css hs) : KerAt W (kcL nx v machL) v css hs nx ms0 :=
  ⟨by simp [machL_len], rfl, rfl, h, by simp, fun i m hm => mach_at nx v i m hm⟩
theorem ker_drop : (((Try.prog.info? 41).bind (·.zero)).map (·.cells.toList)) = some (kcL 0 (.slice none 0 0) machL) := by kernel_rfl
set_option maxRecDepth 100000 in
theorem run_k0 (W : World) : (Instr.build 41 #[]).run Try.prog W = .ok (.agg (kcL 0 (.slice none 0 0) machL).toArray) W := by
  go_simp
  rfl
set_option maxRecDepth 100000 in
theorem run_k2 (W : World) (A : Option Addr) (n c : Nat) : (Instr.build 41 #[(0, .int .i64 2), (1, .slice A n c)]).run Try.prog W = .ok (.agg (kcL 2 (.slice A n c) machL).toArray) W := by
  go_simp
  rfl
theorem hs_nil (W : World) : HsAt W (.slice none 0 0) [] [] := ⟨rfl, fun _ h => (by cases h), SliceAt.nil_ _ _, fun i cs h h1 => (by simp at h1)⟩
theorem hs_one {W : World} {v : Value} {cs : List Value} {q : HeldM} (h : SliceAt W 23 v 1 cs) (hq : HeldAt W cs q) : HsAt W v [cs] [q] :=
  ⟨rfl, fun x hx => by simp at hx; subst hx; exact hq.len, by simpa using h, fun i a b h1 h2 => by
    match i, h1, h2 with
    | 0, h1, h2 => cases h1; cases h2; exact hq
    | k + 1, h1, h2 => simp at h1⟩
abbrev qW (st : Int) : HeldM := ⟨1, 0, 0, st2, [], nd1, st, 0, List.replicate 12 false, false, 0, false⟩
/-- the image of two, and the bad one -/
def imW (A : Option Addr) (c : Nat) (A1 : Option Addr) (c1 : Nat) (f : Int) (nor rev : BitVec 32) : IM := ⟨[1, 2], 1, 1, 9, A, c, A1, c1, 0, List.replicate 24 f, 0#32, nor, rev, 1#32⟩
theorem fr_bad : rowL 0#32 (decide ((9 : Int) < 0)) (List.replicate 24 1) 24 = List.replicate 24 2 := by decide +kernel
section
variable (A : Option Addr) (c : Nat) (A1 : Option Addr) (c1 : Nat)
theorem w1 : provesB (imW A c A1 c1 1 2#32 0#32).stand (qW 1) = true := by
  show provesB (atV [1, 2] 2#32 0#32 (decide ((9 : Int) < 0))) (qW 1) = true; decide +kernel
theorem w2 (st : Int) (hst : (st == 2) = false) : clearB (imW A c A1 c1 1 2#32 0#32).stand (imW A c A1 c1 1 2#32 0#32).occB (imW A c A1 c1 1 2#32 0#32).litB (qW st) = false := by
  unfold clearB; rw [show (qW st).stage = st from rfl, hst]; rfl
theorem w3 : clearB (imW A c A1 c1 1 2#32 0#32).stand (imW A c A1 c1 1 2#32 0#32).occB (imW A c A1 c1 1 2#32 0#32).litB (qW 2) = true := by
  show clearB (atV [1, 2] 2#32 0#32 (decide ((9 : Int) < 0))) (fun n => occV 2 0#32 (decide ((9 : Int) < 0)) (List.replicate 24 1) 1 n) (fun n => litV 1 1#32 (decide ((9 : Int) < 0)) n) (qW 2) = true; decide +kernel
theorem w4 (st : Int) : provesB (imW A c A1 c1 2 0#32 2#32).stand (qW st) = false := by
  show provesB (atV [1, 2] 0#32 2#32 (decide ((9 : Int) < 0))) (qW 1) = false; decide +kernel
theorem w5 : clearB (imW A c A1 c1 2 0#32 2#32).stand (imW A c A1 c1 2 0#32 2#32).occB (imW A c A1 c1 2 0#32 2#32).litB (qW 2) = false := by
  unfold clearB; rw [w4 A c A1 c1 2]; simp
end
end Go.Proofs.Ytkmioplegjeopaa
