/- Presses: where each lies in the list; what the iterator's closures hand over, by position. Nothing that was there is turned but by yield. -/
import Derived.Test.YtioggdiicgfoaaaKeyE
import Derived.Test.YtioggdiicgfoaaaRnd
namespace Go.Proofs.Ytioggdiicgfoaaa.KM
theorem rowP_at {kind : Int} {z : BitVec 32} {i : Nat} (hz : z.getLsbD i = true) : ∀ {n : Nat}, i < n → (rowP kind z n)[(rowP kind z i).length]? = some (kind, (i : Int), 0)
  | n + 1, h => by
    rw [rowP_succ]
    by_cases e : i = n
    · subst e
      rw [List.getElem?_append_right (Nat.le_refl _), Nat.sub_self, hz]; rfl
    · have ih := rowP_at (kind := kind) hz (n := n) (by omega)
      rw [List.getElem?_append_left (List.getElem?_eq_some_iff.1 ih).1]; exact ih
theorem rowP_yes {kind : Int} {z : BitVec 32} {i : Nat} (hz : z.getLsbD i = true) : (rowP kind z (i + 1)).length = (rowP kind z i).length + 1 := by rw [rowP_succ, hz]; simp
theorem rowP_no {kind : Int} {z : BitVec 32} {i : Nat} (hz : z.getLsbD i = false) : (rowP kind z (i + 1)).length = (rowP kind z i).length := by rw [rowP_succ, hz]; simp
theorem keyP_at {b x y : Btn} {i : Nat} (hz : keyOn (b.keys.getD i 0#8) (x.keys.getD i 0#8) (y.keys.getD i 0#8) = true) : ∀ {n : Nat}, i < n → (keyP b x y n)[(keyP b x y i).length]? = some (6, (i : Int), ((b.keys.getD i 0#8).toNat : Int) - 1)
  | n + 1, h => by
    rw [keyP_succ]
    by_cases e : i = n
    · subst e
      rw [List.getElem?_append_right (Nat.le_refl _), Nat.sub_self, hz]; rfl
    · have ih := keyP_at (b := b) (x := x) (y := y) hz (n := n) (by omega)
      rw [List.getElem?_append_left (List.getElem?_eq_some_iff.1 ih).1]; exact ih
theorem keyP_yes {b x y : Btn} {i : Nat} (hz : keyOn (b.keys.getD i 0#8) (x.keys.getD i 0#8) (y.keys.getD i 0#8) = true) : (keyP b x y (i + 1)).length = (keyP b x y i).length + 1 := by rw [keyP_succ, hz]; simp
theorem keyP_no {b x y : Btn} {i : Nat} (hz : keyOn (b.keys.getD i 0#8) (x.keys.getD i 0#8) (y.keys.getD i 0#8) = false) : (keyP b x y (i + 1)).length = (keyP b x y i).length := by rw [keyP_succ, hz]; simp
theorem app_at {α : Type} {l m : List α} {i j : Nat} {v : α} (h : m[j]? = some v) (hi : i = l.length + j) : (l ++ m)[i]? = some v := by
  subst hi; rw [List.getElem?_append_right (by omega), Nat.add_sub_cancel_left]; exact h
theorem app_lo {α : Type} {l m : List α} {i : Nat} {v : α} (h : l[i]? = some v) : (l ++ m)[i]? = some v := by
  rw [List.getElem?_append_left (List.getElem?_eq_some_iff.1 h).1]; exact h
/-- how many presses are ahead of each kind -/
def n1 (b x y : Btn) : Nat := (oneP 1 (b.can && (x.can && !y.can))).length
def n2 (b x y : Btn) : Nat := n1 b x y + (oneP 2 (b.aut && (x.aut && !y.aut))).length
def n3 (b x y : Btn) (ns : Nat) : Nat := n2 b x y + (rowP 3 (front b.ent x.ent y.ent) ns).length
def n4 (b x y : Btn) (ns nc : Nat) : Nat := n3 b x y ns + (rowP 4 (front b.via x.via y.via) nc).length
def n5 (b x y : Btn) (ns ne nc : Nat) : Nat := n4 b x y ns nc + (rowP 5 (front b.exi x.exi y.exi) ne).length
theorem n6 (b x y : Btn) (ns ne nc : Nat) : (pressL b x y ns ne nc).length = n5 b x y ns ne nc + (keyP b x y nc).length := by
  simp only [pressL, List.length_append, n5, n4, n3, n2, n1]; omega
theorem at1 {b x y : Btn} {ns ne nc : Nat} {i : Nat} {p : Pr} (h : (oneP 1 (b.can && (x.can && !y.can)))[i]? = some p) : (pressL b x y ns ne nc)[i]? = some p := app_lo h
theorem at2 {b x y : Btn} {ns ne nc : Nat} {i : Nat} {p : Pr} (h : (oneP 2 (b.aut && (x.aut && !y.aut)))[i]? = some p) : (pressL b x y ns ne nc)[n1 b x y + i]? = some p := app_at (app_lo h) rfl
theorem at3 {b x y : Btn} {ns ne nc : Nat} {i : Nat} {p : Pr} (h : (rowP 3 (front b.ent x.ent y.ent) ns)[i]? = some p) : (pressL b x y ns ne nc)[n2 b x y + i]? = some p :=
  app_at (app_at (app_lo h) rfl) (by simp only [n2, n1]; omega)
theorem at4 {b x y : Btn} {ns ne nc : Nat} {i : Nat} {p : Pr} (h : (rowP 4 (front b.via x.via y.via) nc)[i]? = some p) : (pressL b x y ns ne nc)[n3 b x y ns + i]? = some p :=
  app_at (app_at (app_at (app_lo h) rfl) rfl) (by simp only [n3, n2, n1]; omega)
theorem at5 {b x y : Btn} {ns ne nc : Nat} {i : Nat} {p : Pr} (h : (rowP 5 (front b.exi x.exi y.exi) ne)[i]? = some p) : (pressL b x y ns ne nc)[n4 b x y ns nc + i]? = some p :=
  app_at (app_at (app_at (app_at (app_lo h) rfl) rfl) rfl) (by simp only [n4, n3, n2, n1]; omega)
theorem at6 {b x y : Btn} {ns ne nc : Nat} {i : Nat} {p : Pr} (h : (keyP b x y nc)[i]? = some p) : (pressL b x y ns ne nc)[n5 b x y ns ne nc + i]? = some p :=
  app_at (app_at (app_at (app_at (app_at h rfl) rfl) rfl) rfl) (by simp only [n5, n4, n3, n2, n1]; omega)
/-- is a key turned? of numbers -/
def onI (b x y : Int) : Bool := (b == 1 || b == 2) && (x == b && (y != b && y != 3))
theorem on_eq (b x y : BitVec 8) : onI b.toNat x.toNat y.toNat = keyOn b x y := by
  have e : ∀ u v : BitVec 8, ((u.toNat : Int) == (v.toNat : Int)) = (u == v) := by
    intro u v
    rw [Bool.eq_iff_iff]
    simp only [beq_iff_eq]
    rw [Int.ofNat_inj]
    exact ⟨fun h => BitVec.eq_of_toNat_eq h, fun h => h ▸ rfl⟩
  have e1 := e b 1#8
  have e2 := e b 2#8
  have e3 := e y 3#8
  unfold onI keyOn bne
  rw [e x b, e y b]
  have f1 : ((b.toNat : Int) == 1) = (b == 1#8) := e1
  have f2 : ((b.toNat : Int) == 2) = (b == 2#8) := e2
  have f3 : ((y.toNat : Int) == 3) = (y == 3#8) := e3
  rw [f1, f2, f3]
end Go.Proofs.Ytioggdiicgfoaaa.KM
namespace Go.Proofs.Ytioggdiicgfoaaa
open Go.RowKit Rf Mem KM
attribute [local go_sem ↓] run_max2 run_min2
theorem all_one {M : List Value} (h : ∀ v ∈ M, v.oneCell' = true) : M.toArray.all (·.oneCell') = true := by
  rw [List.all_toArray, List.all_eq_true]; exact h
/-- a new variable is stored whole -/
theorem fill_new {V : World} {gx : Nat} {zs : Array Value} {T : TypeId} {n : Nat} {a : World} (M : List Value) (h : V.heap[gx]? = some (.cells zs T (0, 0))) (hl : M.length = zs.size) (hB : Below n a V) (hn : n ≤ gx) :
    ∃ V', V.setCells gx 0 M.toArray.toList = V' ∧ V'.heap[gx]? = some (.cells M.toArray T (0, 0)) ∧ Below n a V' ∧ (∀ k, k ≠ gx → V'.heap[k]? = V.heap[k]?) ∧ V.there gx 0 M.toArray.size :=
  ⟨_, rfl, by rw [setCells_at _ _ h, setL_all (by simpa using hl)], below_setCells hn _ _ hB, fun k hk => by
    have far : ∀ (vs : List Value) (o : Nat) (w : World), (w.setCells gx o vs).heap[k]? = w.heap[k]? := by
      intro vs
      induction vs with
      | nil => intro o w; rfl
      | cons v r ih => intro o w; rw [World.setCells, ih]; exact Below.heap_setCell w _ v k hk
    exact far _ _ _, there_of h 0 _ (by simp [hl])⟩
structure PPre (W : World) (g : Nat) (x y b : Btn) (ns ne nc : Nat) : Prop where
  c : W.heap[g]? = some (.cells #[.int .i64 ns, .int .i64 ne, .int .i64 nc] 59 (0, 0))
  m : W.heap[g + 1]? = some (.cells (memV x y).toArray 35 (0, 0))
  b : W.heap[g + 1 + 1]? = some (.cells (btnV b).toArray 33 (0, 0))
/-- the variables of the iterator -/
structure PF (W : World) (g yb gx gy l : Nat) (x y b : Btn) (ns ne nc : Nat) : Prop where
  c : W.heap[g]? = some (.cells #[.int .i64 ns, .int .i64 ne, .int .i64 nc] 59 (0, 0))
  b : W.heap[g + 1 + 1]? = some (.cells (btnV b).toArray 33 (0, 0))
  yb : W.cell? ⟨yb, 0, none⟩ = some (.func (.yield l) #[] #[])
  x : W.heap[gx]? = some (.cells (btnV x).toArray 33 (0, 0))
  y : W.heap[gy]? = some (.cells (btnV y).toArray 33 (0, 0))
theorem PF.can {W : World} {g yb gx gy l : Nat} {x y b : Btn} {ns ne nc : Nat} (h : PF W g yb gx gy l x y b ns ne nc) : W.cell? ⟨g + 1 + 1, 3, none⟩ = some (.bool b.can) ∧ W.cell? ⟨gx, 3, none⟩ = some (.bool x.can) ∧ W.cell? ⟨gy, 3, none⟩ = some (.bool y.can) :=
  ⟨cell_list h.b rfl, cell_list h.x rfl, cell_list h.y rfl⟩
theorem PF.aut {W : World} {g yb gx gy l : Nat} {x y b : Btn} {ns ne nc : Nat} (h : PF W g yb gx gy l x y b ns ne nc) : W.cell? ⟨g + 1 + 1, 4, none⟩ = some (.bool b.aut) ∧ W.cell? ⟨gx, 4, none⟩ = some (.bool x.aut) ∧ W.cell? ⟨gy, 4, none⟩ = some (.bool y.aut) :=
  ⟨cell_list h.b rfl, cell_list h.x rfl, cell_list h.y rfl⟩
theorem PF.ent {W : World} {g yb gx gy l : Nat} {x y b : Btn} {ns ne nc : Nat} (h : PF W g yb gx gy l x y b ns ne nc) : W.cell? ⟨g + 1 + 1, 0, none⟩ = some (.int .u32 b.ent.toNat) ∧ W.cell? ⟨gx, 0, none⟩ = some (.int .u32 x.ent.toNat) ∧ W.cell? ⟨gy, 0, none⟩ = some (.int .u32 y.ent.toNat) ∧ W.cell? ⟨g, 0, none⟩ = some (.int .i64 ns) :=
  ⟨cell_list h.b rfl, cell_list h.x rfl, cell_list h.y rfl, by rw [cell_at h.c]; rfl⟩
theorem PF.exi {W : World} {g yb gx gy l : Nat} {x y b : Btn} {ns ne nc : Nat} (h : PF W g yb gx gy l x y b ns ne nc) : W.cell? ⟨g + 1 + 1, 1, none⟩ = some (.int .u32 b.exi.toNat) ∧ W.cell? ⟨gx, 1, none⟩ = some (.int .u32 x.exi.toNat) ∧ W.cell? ⟨gy, 1, none⟩ = some (.int .u32 y.exi.toNat) ∧ W.cell? ⟨g, 1, none⟩ = some (.int .i64 ne) :=
  ⟨cell_list h.b rfl, cell_list h.x rfl, cell_list h.y rfl, by rw [cell_at h.c]; rfl⟩
theorem PF.via {W : World} {g yb gx gy l : Nat} {x y b : Btn} {ns ne nc : Nat} (h : PF W g yb gx gy l x y b ns ne nc) : W.cell? ⟨g + 1 + 1, 2, none⟩ = some (.int .u32 b.via.toNat) ∧ W.cell? ⟨gx, 2, none⟩ = some (.int .u32 x.via.toNat) ∧ W.cell? ⟨gy, 2, none⟩ = some (.int .u32 y.via.toNat) ∧ W.cell? ⟨g, 2, none⟩ = some (.int .i64 nc) :=
  ⟨cell_list h.b rfl, cell_list h.x rfl, cell_list h.y rfl, by rw [cell_at h.c]; rfl⟩
theorem PF.key {W : World} {g yb gx gy l : Nat} {x y b : Btn} {ns ne nc : Nat} (h : PF W g yb gx gy l x y b ns ne nc) {i : Nat} (hb : i < b.keys.length) (hx : i < x.keys.length) (hy : i < y.keys.length) :
    W.cell? ⟨g + 1 + 1, 5 + i, none⟩ = some (.int .u8 ((b.keys.getD i 0#8).toNat : Int)) ∧ W.cell? ⟨gx, 5 + i, none⟩ = some (.int .u8 ((x.keys.getD i 0#8).toNat : Int)) ∧ W.cell? ⟨gy, 5 + i, none⟩ = some (.int .u8 ((y.keys.getD i 0#8).toNat : Int)) :=
  ⟨cell_list h.b (btnV_key hb), cell_list h.x (btnV_key hx), cell_list h.y (btnV_key hy)⟩
/-- the iterator's state: so many presses were handed over -/
structure ISt (l : Nat) (xs : List Pr) (F : World → Prop) (S : Nat → World → Prop) : Prop where
  pf : ∀ i W, S i W → F W
  step : ∀ i p W, xs[i]? = some p → S i W → YieldAt Fence.wide 0 Try.prog l #[prV p] W fun e W' => e = .returned (.bool true) ∧ S (i + 1) W'
theorem one_s {l yb : Nat} {xs : List Pr} {F : World → Prop} {S : Nat → World → Prop} (H : ISt l xs F S) (hF : ∀ W, F W → W.cell? ⟨yb, 0, none⟩ = some (.func (.yield l) #[] #[])) (kind : Int) (is : Bool) (n m : Nat) (W : World)
    (hat : ∀ p, (oneP kind is)[0]? = some p → xs[n + 0]? = some p) (hm : m = n + (oneP kind is).length) (hS : S n W) :
    CallsIn Fence.wide 0 Try.prog 45 #[.int .u8 kind, .bool is, .pointer (some ⟨yb, 0, none⟩)] W fun e W' => e = .returned (.bool true) ∧ S m W' := by
  subst hm
  refine one_c kind is yb l W _ (hF _ (H.pf _ _ hS)) (fun h => ?_) (fun h => ?_)
  · subst h; exact ⟨rfl, hS⟩
  · subst h
    obtain ⟨fn, tmps, assign, body, hy, hR⟩ := H.step n _ W (hat _ rfl) hS
    exact ⟨fn, tmps, assign, body, hy, hR.mono fun e W' h => ⟨h.1, rfl, h.2⟩⟩
theorem row_s {l yb : Nat} {xs : List Pr} {F : World → Prop} {S : Nat → World → Prop} (H : ISt l xs F S) (hF : ∀ W, F W → W.cell? ⟨yb, 0, none⟩ = some (.func (.yield l) #[] #[])) (kind : Int) (z : BitVec 32) (k n m : Nat) (W : World) (hk : k ≤ 32)
    (hat : ∀ i p, (rowP kind z k)[i]? = some p → xs[n + i]? = some p) (hm : m = n + (rowP kind z k).length) (hS : S n W) :
    CallsIn Fence.wide 0 Try.prog 46 #[.int .u8 kind, .int .u32 z.toNat, .int .i64 k, .pointer (some ⟨yb, 0, none⟩)] W fun e W' => e = .returned (.bool true) ∧ S m W' := by
  subst hm
  refine row_c kind z k yb l (fun i W => S (n + (rowP kind z i).length) W) W hk (fun i W h => hF _ (H.pf _ _ h)) (fun i W hi hz h => ?_) (fun i W hi hz h => ?_) (by simpa [rowP] using hS)
  · show YieldAt _ _ _ _ _ _ (fun e W' => e = .returned (.bool true) ∧ S (n + (rowP kind z (i + 1)).length) W')
    rw [rowP_yes hz]; exact H.step _ _ W (hat _ _ (rowP_at hz hi)) h
  · show S (n + (rowP kind z (i + 1)).length) W
    rw [rowP_no hz]; exact h
end Go.Proofs.Ytioggdiicgfoaaa
