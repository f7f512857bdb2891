/- Link, in company. Nothing that was there is turned. -/
import Derived.Test.YtlanlkpamnoekaaDoorZT14
import Derived.Test.YtlanlkpamnoekaaDoorZT15
set_option linter.unusedSimpArgs false
set_option linter.unusedVariables false
namespace Go.Proofs.YtlanlkpamnoekaaDoor
open List renaming getElem_toArray → zA, getElem_cons_succ → zS, getElem_cons_zero → zZ, setIfInBounds_toArray → zP, set_cons_zero → zQ, set_cons_succ → zR
open Go Go.RowKit Rf Mem Bv Crc Str Lk
set_option maxRecDepth 100000
attribute [local go_sem ↓] run_max2 run_min2
def lit166 (j : Nat → Value) : List Value := [j 0, j 1, j 2, j 3, j 4, j 5, j 6, j 7, j 8, j 9, j 10, j 11, j 12, j 13, j 14, j 15, j 16, j 17, j 18, j 19, j 20, j 21, j 22, j 23, j 24, j 25, j 26, j 27, j 28, j 29, j 30, j 31, j 32, j 33, j 34, j 35, j 36, j 37, j 38, j 39, j 40, j 41, j 42, j 43, j 44, j 45, j 46, j 47, j 48, j 49] ++ ([j 50, j 51, j 52, j 53, j 54, j 55, j 56, j 57, j 58, j 59, j 60, j 61, j 62, j 63, j 64, j 65, j 66, j 67, j 68, j 69, j 70, j 71, j 72, j 73, j 74, j 75, j 76, j 77, j 78, j 79, j 80, j 81, j 82, j 83, j 84, j 85, j 86, j 87, j 88, j 89, j 90, j 91, j 92, j 93, j 94, j 95, j 96, j 97, j 98, j 99] ++ ([j 100, j 101, j 102, j 103, j 104, j 105, j 106, j 107, j 108, j 109, j 110, j 111, j 112, j 113, j 114, j 115, j 116, j 117, j 118, j 119, j 120, j 121, j 122, j 123, j 124, j 125, j 126, j 127, j 128, j 129, j 130, j 131, j 132, j 133, j 134, j 135, j 136, j 137, j 138, j 139, j 140, j 141, j 142, j 143, j 144, j 145, j 146, j 147, j 148, j 149] ++ ([j 150, j 151, j 152, j 153, j 154, j 155, j 156, j 157, j 158, j 159, j 160, j 161, j 162, j 163, j 164, j 165])))
theorem lit166_eq (j : Nat → Value) : (List.range 166).map j = lit166 j := by kernel_rfl
theorem Sl.lit166 {a : Act} {l : List (Nat × Value)} (h : Sl a 166 l) : ∃ j : Nat → Value, a = ⟨(lit166 j).toArray, []⟩ ∧ ∀ p ∈ l, j p.1 = p.2 := by
  obtain ⟨j, h1, h2⟩ := h.letters
  exact ⟨j, by rw [h1, lit166_eq], h2⟩

noncomputable def bodyT : Code := Tryd.f3.body.getD .skip
noncomputable def rgT (k : Nat) : Code := nthSeq k bodyT

noncomputable def rT1 : Code := cfst (rgT 1)
noncomputable def opsT2 : Array Oper := copsOf (cfst (cyes (csnd (rgT 1))))
noncomputable def rT3 : Code := cfst (rgT 2)
noncomputable def loopT : Code := match rgT 2 with | .seq _ (.block _ (.loop c)) => c | _ => .skip
noncomputable def rT4 : Code := cfst (cfst loopT)
noncomputable def cT : Code := match loopT with | .seq _ (.seq (.block _ c) _) => c | _ => .skip
noncomputable def rT5 : Code := csnd (csnd loopT)
noncomputable def rT6 : Code := cfst cT
noncomputable def rT7 : Code := cfst (csnd cT)
noncomputable def rT8 : Code := cfst (csnd (csnd cT))
noncomputable def rT9 : Code := cyes (csnd (csnd (csnd cT)))
noncomputable def opsT10 : Array Oper := copsOf (rgT 3)
noncomputable def opsT11 : Array Oper := copsOf (rgT 4)
noncomputable def opsT14 : Array Oper := copsOf (rgT 7)
theorem bodyT_eq : bodyT = .seq (rgT 0) (.seq (rgT 1) (.seq (rgT 2) (.seq (rgT 3) (.seq (rgT 4) (.seq (rgT 5) (.seq (rgT 6) (.seq (rgT 7) .ret))))))) := rfl
theorem rgT1_eq : rgT 1 = .seq rT1 (.cond (.tmp 38) (.seq (.region 2 opsT2 false) .ret) .skip) := rfl
theorem rgT2_eq : rgT 2 = .seq rT3 (.block 0 (.loop loopT)) := rfl
theorem loopT_eq : loopT = .seq (.seq rT4 (.cond (.tmp 43) .skip (.exit 0))) (.seq (.block 1 cT) rT5) := rfl
theorem cT_eq : cT = .seq rT6 (.seq rT7 (.seq rT8 (.cond (.tmp 81) rT9 .skip))) := rfl
theorem rgT3_eq : rgT 3 = .region 10 opsT10 false := rfl
theorem rgT4_eq : rgT 4 = .region 11 opsT11 false := rfl
theorem rgT7_eq : rgT 7 = .region 14 opsT14 true := rfl
theorem sizeT2 : List.range opsT2.size = [0, 1] := by kernel_rfl
theorem sizeT10 : List.range opsT10.size = [0, 1, 2] ++ [3, 4, 5, 6, 7, 8, 9] := by kernel_rfl
theorem sizeT11 : List.range opsT11.size = [0, 1, 2] ++ [3, 4, 5, 6, 7, 8, 9] := by kernel_rfl
theorem shapeT14 : shapeB opsT14 58 = true := by kernel_rfl
theorem lt0 (q0 : Act) (Af : Option Addr) (cf n : Nat) (kd : Int) (Ay : Option Addr) (cy m : Nat) (y : Nat → Value) (tl : Int) (s q e : Int) (a b c d : U32) (hS : Sl q0 166 [(0, ly y tl), (1, lk s q e), (2, .int .u8 kd), (3, .slice Af n cf), (4, inv a b c d), (5, .slice Ay m cy)]) (w : World) : (rgT 0).wp Tryd.prog (nrm fun a' w' => ∃ g6 g7 g10, Sl a' 166 [(2, .int .u8 kd), (3, .slice Af n cf), (5, .slice Ay m cy), (6, .pointer (some ⟨g6, 0, none⟩)), (7, .pointer (some ⟨g7, 0, none⟩)), (10, .pointer (some ⟨g10, 0, none⟩)), (12, .bool false)] ∧ LY w' g6 y tl ∧ LVar w' g7 s q e ∧ IVar w' g10 a b c d ∧ Below w.heap.size w w') q0 w := by
  obtain ⟨j, rfl, hj⟩ := hS.lit166
  have h0 : j 0 = ly y tl := hj (0, _) (by simp)
  have h1 : j 1 = lk s q e := hj (1, _) (by simp)
  have h2 : j 2 = .int .u8 kd := hj (2, _) (by simp)
  have h3 : j 3 = .slice Af n cf := hj (3, _) (by simp)
  have h4 : j 4 = inv a b c d := hj (4, _) (by simp)
  have h5 : j 5 = .slice Ay m cy := hj (5, _) (by simp)
  clear hj hS
  unfold rgT bodyT
  simp only [Tryd.f3, Option.getD_some, nthSeq, cfst, csnd, cyes, copsOf, lit166, List.cons_append, List.nil_append, h0, h1, h2, h3, h4, h5]
  have b1 := below_new w (.cells (lyc y tl) 29)
  have V1 : LY (w.alloc (.cells (lyc y tl) 29)) w.heap.size y tl := ⟨new_at rfl _⟩
  have b2 := below_new (w.alloc (.cells (lyc y tl) 29)) (.cells #[.int .i64 s, .int .i64 q, .int .i64 e] 31)
  have V2 := LVar.new (w.alloc (.cells (lyc y tl) 29)) s q e
  have b3 := below_new ((w.alloc (.cells (lyc y tl) 29)).alloc (.cells #[.int .i64 s, .int .i64 q, .int .i64 e] 31)) (.cells (inc a b c d) 35)
  have V3 : IVar (((w.alloc (.cells (lyc y tl) 29)).alloc (.cells #[.int .i64 s, .int .i64 q, .int .i64 e] 31)).alloc (.cells (inc a b c d) 35)) ((w.alloc (.cells (lyc y tl) 29)).alloc (.cells #[.int .i64 s, .int .i64 q, .int .i64 e] 31)).heap.size a b c d := ⟨new_at rfl _⟩
  have B3 := below_step (below_step b1 b2) b3
  have V1' := (V1.later b2).later b3
  have V2' := V2.later b3
  simp only [World.size_alloc] at V2' V3
  clear V1 V2 b1 b2 b3
  go_wp2
  exact ⟨_, _, _, ⟨rfl, rfl, by simp⟩, V1', V2', V3, B3⟩
theorem lt1 (q0 : Act) (Af : Option Addr) (cf n : Nat) (kd : Int) (Ay : Option Addr) (cy m : Nat) (g6 g7 g10 : Nat) (y : Nat → Value) (tl : Int) (us : List Value) (xs : List (List (BitVec 8))) (hn : us.length = n) (hS : Sl q0 166 [(2, .int .u8 kd), (3, .slice Af n cf), (5, .slice Ay m cy), (6, .pointer (some ⟨g6, 0, none⟩)), (7, .pointer (some ⟨g7, 0, none⟩)), (10, .pointer (some ⟨g10, 0, none⟩)), (12, .bool false)]) (w : World) (hQ : LayQ w y) (hY : LY w g6 y tl) (hs : SliceAt w 1 (.slice Af n cf) n us) (hE : ElsW w us xs) : rT1.wp Tryd.prog (nrm fun a' w' => ∃ t : Bool, Sl a' 166 [(2, .int .u8 kd), (3, .slice Af n cf), (5, .slice Ay m cy), (6, .pointer (some ⟨g6, 0, none⟩)), (7, .pointer (some ⟨g7, 0, none⟩)), (10, .pointer (some ⟨g10, 0, none⟩)), (12, .bool false), (38, .bool t)] ∧ (t = false → n ≤ 60 ∧ (∀ y ∈ xs, y.length ≤ 200) ∧ m ≤ 200) ∧ Below w.heap.size w w') q0 w := by
  obtain ⟨j, rfl, hj⟩ := hS.lit166
  have h2 : j 2 = .int .u8 kd := hj (2, _) (by simp)
  have h3 : j 3 = .slice Af n cf := hj (3, _) (by simp)
  have h5 : j 5 = .slice Ay m cy := hj (5, _) (by simp)
  have h6 : j 6 = .pointer (some ⟨g6, 0, none⟩) := hj (6, _) (by simp)
  have h7 : j 7 = .pointer (some ⟨g7, 0, none⟩) := hj (7, _) (by simp)
  have h10 : j 10 = .pointer (some ⟨g10, 0, none⟩) := hj (10, _) (by simp)
  have h12 : j 12 = .bool false := hj (12, _) (by simp)
  clear hj hS
  unfold rT1 rgT bodyT
  simp only [Tryd.f3, Option.getD_some, nthSeq, cfst, csnd, cyes, copsOf, lit166, List.cons_append, List.nil_append, h2, h3, h5, h6, h7, h10, h12]
  have hxn : xs.length = n := by rw [← hE.len]; exact hn
  obtain ⟨y0, y1', y2, y3, y4, y5, y6, y7, y8, y9, y10⟩ := hY.cells
  go_wp2_with fail
  clear y0 y1' y2 y3 y4 y5 y6 y7 y8 y9 y10
  refine (great07_c y tl w hQ).mono ?_
  rintro e' W ⟨⟨bg, rfl⟩, b1⟩
  have hs1 := hs.later b1
  have hE1 := hE.later b1
  clear hs hE hQ hY
  cases bg with
  | true =>
    go_wp2
    exact ⟨true, ⟨rfl, rfl, by simp⟩, fun h => by (try cases h), b1⟩
  | false =>
    go_wp2_with fail
    refine (great_w (.slice Af n cf) us xs W (by rw [hn]; exact hs1) hE1).mono ?_
    rintro e' W' ⟨⟨bh, rfl, hbh⟩, rfl⟩
    have HB := Lib.hid hbh
    have HXN := Lib.hid hxn
    clear hbh hxn hn hs1 hE1
    cases bh with
    | true =>
      go_wp2
      exact ⟨true, ⟨rfl, rfl, by simp⟩, fun h => by (try cases h), b1⟩
    | false =>
      obtain ⟨r, hr⟩ : ∃ r, decide ((200 : Int) < (m : Int)) = r := ⟨_, rfl⟩
      have HR := Lib.hid hr
      go_wp2
      refine ⟨r, ⟨rfl, rfl, by simp [HR.out]⟩, fun h => ?_, b1⟩
      have h1 := HB.out (by first | exact trivial | rfl)
      rw [HXN.out] at h1
      refine ⟨h1.1, h1.2, ?_⟩
      have := HR.out
      rw [h] at this
      simp at this
      omega
theorem lt3 (q0 : Act) (Af : Option Addr) (cf n : Nat) (kd : Int) (Ay : Option Addr) (cy m : Nat) (g6 g7 g10 : Nat) (hS : Sl q0 166 [(2, .int .u8 kd), (3, .slice Af n cf), (5, .slice Ay m cy), (6, .pointer (some ⟨g6, 0, none⟩)), (7, .pointer (some ⟨g7, 0, none⟩)), (10, .pointer (some ⟨g10, 0, none⟩)), (12, .bool false)]) (w : World) : rT3.wp Tryd.prog (nrm fun a' w' => Sl a' 166 [(2, .int .u8 kd), (3, .slice Af n cf), (5, .slice Ay m cy), (6, .pointer (some ⟨g6, 0, none⟩)), (7, .pointer (some ⟨g7, 0, none⟩)), (10, .pointer (some ⟨g10, 0, none⟩)), (12, .bool false), (13, .int .i64 0)] ∧ w' = w) q0 w := by
  obtain ⟨j, rfl, hj⟩ := hS.lit166
  have h2 : j 2 = .int .u8 kd := hj (2, _) (by simp)
  have h3 : j 3 = .slice Af n cf := hj (3, _) (by simp)
  have h5 : j 5 = .slice Ay m cy := hj (5, _) (by simp)
  have h6 : j 6 = .pointer (some ⟨g6, 0, none⟩) := hj (6, _) (by simp)
  have h7 : j 7 = .pointer (some ⟨g7, 0, none⟩) := hj (7, _) (by simp)
  have h10 : j 10 = .pointer (some ⟨g10, 0, none⟩) := hj (10, _) (by simp)
  have h12 : j 12 = .bool false := hj (12, _) (by simp)
  clear hj hS
  unfold rT3 rgT bodyT
  simp only [Tryd.f3, Option.getD_some, nthSeq, cfst, csnd, cyes, copsOf, lit166, List.cons_append, List.nil_append, h2, h3, h5, h6, h7, h10, h12]
  go_wp2
  exact ⟨⟨rfl, rfl, by simp⟩, rfl⟩
theorem lt4 (q0 : Act) (Af : Option Addr) (cf n : Nat) (kd : Int) (Ay : Option Addr) (cy m : Nat) (g6 g7 g10 : Nat) (i : Nat) (t : Bool) (ht : t = decide ((i : Int) < n)) (hS : Sl q0 166 [(2, .int .u8 kd), (3, .slice Af n cf), (5, .slice Ay m cy), (6, .pointer (some ⟨g6, 0, none⟩)), (7, .pointer (some ⟨g7, 0, none⟩)), (10, .pointer (some ⟨g10, 0, none⟩)), (12, .bool false), (13, .int .i64 (i : Nat))]) (w : World) : rT4.wp Tryd.prog (nrm fun a' w' => Sl a' 166 [(2, .int .u8 kd), (3, .slice Af n cf), (5, .slice Ay m cy), (6, .pointer (some ⟨g6, 0, none⟩)), (7, .pointer (some ⟨g7, 0, none⟩)), (10, .pointer (some ⟨g10, 0, none⟩)), (12, .bool false), (13, .int .i64 (i : Nat)), (43, .bool t)] ∧ w' = w) q0 w := by
  obtain ⟨j, rfl, hj⟩ := hS.lit166
  have h2 : j 2 = .int .u8 kd := hj (2, _) (by simp)
  have h3 : j 3 = .slice Af n cf := hj (3, _) (by simp)
  have h5 : j 5 = .slice Ay m cy := hj (5, _) (by simp)
  have h6 : j 6 = .pointer (some ⟨g6, 0, none⟩) := hj (6, _) (by simp)
  have h7 : j 7 = .pointer (some ⟨g7, 0, none⟩) := hj (7, _) (by simp)
  have h10 : j 10 = .pointer (some ⟨g10, 0, none⟩) := hj (10, _) (by simp)
  have h12 : j 12 = .bool false := hj (12, _) (by simp)
  have h13 : j 13 = .int .i64 (i : Nat) := hj (13, _) (by simp)
  clear hj hS
  unfold rT4 loopT rgT bodyT
  simp only [Tryd.f3, Option.getD_some, nthSeq, cfst, csnd, cyes, copsOf, lit166, List.cons_append, List.nil_append, h2, h3, h5, h6, h7, h10, h12, h13]
  subst ht
  go_wp2
  exact ⟨⟨rfl, rfl, by simp⟩, rfl⟩
theorem lt5 (q0 : Act) (Af : Option Addr) (cf n : Nat) (kd : Int) (Ay : Option Addr) (cy m : Nat) (g6 g7 g10 : Nat) (i : Nat) (hi : i < 100) (hS : Sl q0 166 [(2, .int .u8 kd), (3, .slice Af n cf), (5, .slice Ay m cy), (6, .pointer (some ⟨g6, 0, none⟩)), (7, .pointer (some ⟨g7, 0, none⟩)), (10, .pointer (some ⟨g10, 0, none⟩)), (12, .bool false), (13, .int .i64 (i : Nat))]) (w : World) : rT5.wp Tryd.prog (nrm fun a' w' => Sl a' 166 [(2, .int .u8 kd), (3, .slice Af n cf), (5, .slice Ay m cy), (6, .pointer (some ⟨g6, 0, none⟩)), (7, .pointer (some ⟨g7, 0, none⟩)), (10, .pointer (some ⟨g10, 0, none⟩)), (12, .bool false), (13, .int .i64 ((i + 1) : Nat))] ∧ w' = w) q0 w := by
  obtain ⟨j, rfl, hj⟩ := hS.lit166
  have h2 : j 2 = .int .u8 kd := hj (2, _) (by simp)
  have h3 : j 3 = .slice Af n cf := hj (3, _) (by simp)
  have h5 : j 5 = .slice Ay m cy := hj (5, _) (by simp)
  have h6 : j 6 = .pointer (some ⟨g6, 0, none⟩) := hj (6, _) (by simp)
  have h7 : j 7 = .pointer (some ⟨g7, 0, none⟩) := hj (7, _) (by simp)
  have h10 : j 10 = .pointer (some ⟨g10, 0, none⟩) := hj (10, _) (by simp)
  have h12 : j 12 = .bool false := hj (12, _) (by simp)
  have h13 : j 13 = .int .i64 (i : Nat) := hj (13, _) (by simp)
  clear hj hS
  unfold rT5 loopT rgT bodyT
  simp only [Tryd.f3, Option.getD_some, nthSeq, cfst, csnd, cyes, copsOf, lit166, List.cons_append, List.nil_append, h2, h3, h5, h6, h7, h10, h12, h13]
  go_wp2
  exact ⟨⟨rfl, rfl, by simp [IntWalk.i64_in _ (show -9223372036854775808 ≤ (i : Int) + 1 ∧ (i : Int) + 1 ≤ 9223372036854775807 by omega)]⟩, rfl⟩
set_option maxHeartbeats 8000000 in
theorem lt6 (q0 : Act) (bA oA cf n : Nat) (kd : Int) (Ap : Option Addr) (cp m : Nat) (g6 g7 g10 : Nat)  (i : Nat) (s q e : Int) (er : Int) (s' q' e' : Int) (f : Frm) (y : List (BitVec 8)) (us : List Value) (Ay : Option Addr) (cy : Nat) (hr : (((s', q', e'), er, f) : Lst × Int × Frm) = hearV kd y (s, q, e)) (hin : i < n) (hu : us[i]? = some (.slice Ay y.length cy)) (hly : y.length ≤ 140737488355320) (hS : Sl q0 166 [(2, .int .u8 kd), (3, .slice (some ⟨bA, oA, none⟩) n cf), (5, .slice Ap m cp), (6, .pointer (some ⟨g6, 0, none⟩)), (7, .pointer (some ⟨g7, 0, none⟩)), (10, .pointer (some ⟨g10, 0, none⟩)), (12, .bool false), (13, .int .i64 (i : Nat))]) (w : World) (hT : Tops w) (L : LVar w g7 s q e) (CS : SliceAt w 1 (.slice (some ⟨bA, oA, none⟩) n cf) n us) (SY : SliceAt w 1 (.slice Ay y.length cy) y.length (u8s y)) : rT6.wp Tryd.prog (nrm fun a' w' => ∃ gc gd, Sl a' 166 [(2, .int .u8 kd), (3, .slice (some ⟨bA, oA, none⟩) n cf), (5, .slice Ap m cp), (6, .pointer (some ⟨g6, 0, none⟩)), (7, .pointer (some ⟨g7, 0, none⟩)), (10, .pointer (some ⟨g10, 0, none⟩)), (12, .bool false), (13, .int .i64 (i : Nat)), (14, .pointer (some ⟨gc, 0, none⟩)), (15, .pointer (some ⟨gd, 0, none⟩)), (16, .int .i64 er)] ∧ LVar w' gc s' q' e' ∧ FV w' gd f ∧ w.heap.size ≤ gc ∧ w.heap.size ≤ gd ∧ Below w.heap.size w w') q0 w := by
  have HR := Lib.hid hr
  have LY0 := Lib.hid (show y.length ≤ 140737488355328 by omega)
  have i1 : (0 : Int) ≤ (i : Int) ∧ (i : Int) < (n : Int) := by omega
  have hL5 : ∀ g, w.heap.size ≤ g → g7 ≠ g := fun g hg => Nat.ne_of_lt (Nat.lt_of_lt_of_le (lt_of_at L.at_) hg)
  have hC5 : ∀ g, w.heap.size ≤ g → bA ≠ g := fun g hg => Nat.ne_of_lt (Nat.lt_of_lt_of_le (vblock_lt CS ⟨by omega, rfl⟩) hg)
  clear hr hly
  obtain ⟨j, rfl, hj⟩ := hS.lit166
  have h2 : j 2 = .int .u8 kd := hj (2, _) (by simp)
  have h3 : j 3 = .slice (some ⟨bA, oA, none⟩) n cf := hj (3, _) (by simp)
  have h5 : j 5 = .slice Ap m cp := hj (5, _) (by simp)
  have h6 : j 6 = .pointer (some ⟨g6, 0, none⟩) := hj (6, _) (by simp)
  have h7 : j 7 = .pointer (some ⟨g7, 0, none⟩) := hj (7, _) (by simp)
  have h10 : j 10 = .pointer (some ⟨g10, 0, none⟩) := hj (10, _) (by simp)
  have h12 : j 12 = .bool false := hj (12, _) (by simp)
  have h13 : j 13 = .int .i64 (i : Nat) := hj (13, _) (by simp)
  clear hj hS
  unfold rT6 cT loopT rgT bodyT
  simp only [Tryd.f3, Option.getD_some, nthSeq, cfst, csnd, cyes, copsOf, lit166, List.cons_append, List.nil_append, h2, h3, h5, h6, h7, h10, h12, h13]
  refine Node.region_key (fun w' => LVar w' g7 s q e ∧ SliceAt w' 1 (.slice (some ⟨bA, oA, none⟩) n cf) n us) 3 #[true, true, true, true, true, true, true, true, true, true, true, true, true, false, false, false] (fun a V => ∃ (u5 u6 : Nat) (A3 : Option Addr) (c3 : Nat), Sl a 166 [(2, .int .u8 kd), (3, .slice (some ⟨bA, oA, none⟩) n cf), (5, .slice Ap m cp), (6, .pointer (some ⟨g6, 0, none⟩)), (7, .pointer (some ⟨g7, 0, none⟩)), (10, .pointer (some ⟨g10, 0, none⟩)), (12, .bool false), (13, .int .i64 (i : Nat)), (14, .pointer (some ⟨u5, 0, none⟩)), (15, .pointer (some ⟨u6, 0, none⟩)), (54, lk s' q' e'), (55, fv (f.1.toNat : Int) (f.2.1.toNat : Int) (.slice A3 f.2.2.length c3)), (56, .int .i64 er)] ∧ u6 ≠ u5 ∧ LVar V u5 0 0 0 ∧ V.heap[u6]? = some (.cells #[.int .u8 0, .int .u8 0, .slice none 0 0] 41 (0, 0)) ∧ SliceAt V 1 (.slice A3 f.2.2.length c3) f.2.2.length (u8s f.2.2) ∧ (∀ q, VB (.slice A3 f.2.2.length c3) f.2.2.length q → q ≠ u6) ∧ Below w.heap.size w V ∧ w.heap.size ≤ u5 ∧ w.heap.size ≤ u6) ?_ (fun kT => ?_)
  · rintro a V hS ⟨u5, u6, A3, c3, hs, n56, N5, N6, hp, n6q, Bb, n5, n6⟩
    obtain ⟨L0, C0⟩ := hS
    obtain ⟨j, rfl, hj⟩ := hs.lit166
    have zk2 : j 2 = .int .u8 kd := hj (2, _) (by simp)
    have zk3 : j 3 = .slice (some ⟨bA, oA, none⟩) n cf := hj (3, _) (by simp)
    have zk5 : j 5 = .slice Ap m cp := hj (5, _) (by simp)
    have zk6 : j 6 = .pointer (some ⟨g6, 0, none⟩) := hj (6, _) (by simp)
    have zk7 : j 7 = .pointer (some ⟨g7, 0, none⟩) := hj (7, _) (by simp)
    have zk10 : j 10 = .pointer (some ⟨g10, 0, none⟩) := hj (10, _) (by simp)
    have zk12 : j 12 = .bool false := hj (12, _) (by simp)
    have zk13 : j 13 = .int .i64 (i : Nat) := hj (13, _) (by simp)
    have zk14 : j 14 = .pointer (some ⟨u5, 0, none⟩) := hj (14, _) (by simp)
    have zk15 : j 15 = .pointer (some ⟨u6, 0, none⟩) := hj (15, _) (by simp)
    have zk54 : j 54 = lk s' q' e' := hj (54, _) (by simp)
    have zk55 : j 55 = fv (f.1.toNat : Int) (f.2.1.toNat : Int) (.slice A3 f.2.2.length c3) := hj (55, _) (by simp)
    have zk56 : j 56 = .int .i64 er := hj (56, _) (by simp)
    clear hj hs
    simp only [lit166, List.cons_append, List.nil_append, zk2, zk3, zk5, zk6, zk7, zk10, zk12, zk13, zk14, zk15, zk54, zk55, zk56]
    refine Node.on 13 rfl (fun K hK => ?_)
    refine wp_st_lk N5 rfl rfl rfl rfl ?_
    have hn5 := lt_of_at N5.at_
    have k5 := hL5 u5 n5
    replace L0 := L0.far3 (g' := u5) k5 s' q' e'
    replace N6 := frame_far3 N6 (g' := u5) n56 s' q' e'
    replace C0 := slice_far C0 (hC5 u5 n5) (.int .i64 s') (.int .i64 q') (.int .i64 e')
    have N5' := N5.set3 s' q' e'
    replace Bb := ((Bb.setCell (p := ⟨u5, 0, none⟩) n5 (.int .i64 s')).setCell (p := ⟨u5, 1, none⟩) n5 (.int .i64 q')).setCell (p := ⟨u5, 2, none⟩) n5 (.int .i64 e')
    replace hp := bytes_far hp N5 (.int .i64 s') (.int .i64 q') (.int .i64 e')
    clear N5 hn5 k5
    generalize ((V.setCell ⟨u5, 0, none⟩ (.int .i64 s')).setCell ⟨u5, 1, none⟩ (.int .i64 q')).setCell ⟨u5, 2, none⟩ (.int .i64 e') = V at *
    refine hK.out _ _ ⟨L0, C0⟩ (fun _ => ?_)
    clear hK K
    try simp only [zA, zS, zZ, Act.put, zP, zQ, zR]
    refine Node.on 14 rfl (fun K hK => ?_)
    refine wp_st_fr N6 rfl rfl rfl rfl ?_
    have F := FV.put3 (f := f) N6 hp n6q
    have k6 := hL5 u6 n6
    replace L0 := L0.at_
    replace L0 : LVar (((V.setCell ⟨u6, 0, none⟩ (.int .u8 (f.1.toNat : Int))).setCell ⟨u6, 1, none⟩ (.int .u8 (f.2.1.toNat : Int))).setCell ⟨u6, 2, none⟩ (.slice A3 f.2.2.length c3)) g7 s q e := ⟨frame_far3' L0 k6 _ _ _⟩
    replace C0 := slice_far C0 (hC5 u6 n6) (.int .u8 (f.1.toNat : Int)) (.int .u8 (f.2.1.toNat : Int)) (.slice A3 f.2.2.length c3)
    replace N5' : LVar (((V.setCell ⟨u6, 0, none⟩ (.int .u8 (f.1.toNat : Int))).setCell ⟨u6, 1, none⟩ (.int .u8 (f.2.1.toNat : Int))).setCell ⟨u6, 2, none⟩ (.slice A3 f.2.2.length c3)) u5 s' q' e' := ⟨frame_far3' N5'.at_ (Ne.symm n56) _ _ _⟩
    replace Bb := ((Bb.setCell (p := ⟨u6, 0, none⟩) n6 (.int .u8 (f.1.toNat : Int))).setCell (p := ⟨u6, 1, none⟩) n6 (.int .u8 (f.2.1.toNat : Int))).setCell (p := ⟨u6, 2, none⟩) n6 (.slice A3 f.2.2.length c3)
    clear N6 hp n6q k6
    generalize ((V.setCell ⟨u6, 0, none⟩ (.int .u8 (f.1.toNat : Int))).setCell ⟨u6, 1, none⟩ (.int .u8 (f.2.1.toNat : Int))).setCell ⟨u6, 2, none⟩ (.slice A3 f.2.2.length c3) = V at *
    refine hK.out _ _ ⟨L0, C0⟩ (fun _ => ?_)
    clear hK K
    try simp only [zA, zS, zZ, Act.put, zP, zQ, zR]
    refine Node.tk 15 ?_ rfl ?_ ?_
    rotate_left
    · intro w hSw; (try dsimp only at hSw); go_simp; try with_reducible rfl
    simp only [zA, zS, zZ, Act.put, zP, zQ, zR]
    refine wpAnyH_done (by kernel_rfl) ?_ _
    exact ⟨u5, u6, ⟨rfl, rfl, by simp⟩, N5', F, n5, n6, Bb⟩
  refine wp_region_held_drew (S := (fun w' => LVar w' g7 s q e ∧ SliceAt w' 1 (.slice (some ⟨bA, oA, none⟩) n cf) n us)) (by kernel_rfl) ?_ (fun hHeld => ?_)
  · exact ⟨⟨L.at_⟩, CS⟩
  have Bb : Below w.heap.size w w.drew := (Below.refl _ w).drew
  clear hHeld
  have L0 := L.later Bb
  have C0 := CS.later Bb
  have hT0 := hT.below Bb
  replace SY := SY.later Bb
  clear L hT CS
  generalize w.drew = V at *
  have hHeld : LVar V g7 s q e ∧ SliceAt V 1 (.slice (some ⟨bA, oA, none⟩) n cf) n us := ⟨L0, C0⟩
  refine Node.tk 0 (lk s q e) rfl (fun _ hSw => run_ld hSw.1 rfl rfl) ?_
  simp only [zA, zS, zZ, Act.put, zP, zQ, zR]
  refine Node.tk 1 ?_ rfl ?_ ?_
  rotate_left
  · intro w hSw; (try dsimp only at hSw); go_simp; try with_reducible rfl
  simp only [zA, zS, zZ, Act.put, zP, zQ, zR]
  refine Node.tk 2 ?_ rfl ?_ ?_
  rotate_left
  · intro w hSw; (try dsimp only at hSw); go_simp; try with_reducible rfl
  simp only [zA, zS, zZ, Act.put, zP, zQ, zR]
  refine Node.tk 3 ?_ rfl ?_ ?_
  rotate_left
  · intro w hSw; (try dsimp only at hSw); go_simp; try with_reducible rfl
  simp only [zA, zS, zZ, Act.put, zP, zQ, zR]
  refine Node.tk 4 ?_ rfl ?_ ?_
  rotate_left
  · intro w hSw; (try dsimp only at hSw); go_simp; try with_reducible rfl
  simp only [zA, zS, zZ, Act.put, zP, zQ, zR]
  refine Node.tk 5 (.slice Ay y.length cy) rfl (fun _ hSw => run_el (slice_cell hSw.2 hu) rfl rfl) ?_
  simp only [zA, zS, zZ, Act.put, zP, zQ, zR]
  clear hHeld
  refine wpAnyH_ready (rs := [6, 11, 12]) (by kernel_rfl) (by simp) ?_
  refine AllReadyH.cons rfl (fun K hK => ?_) (AllReadyH.cons rfl (fun K hK => ?_) (AllReadyH.cons rfl (fun K hK => ?_) AllReadyH.nil))
  · skip
    refine Node.wp_fn 11 [.tmp 47, .tmp 48, .tmp 52] _ [lkv (s, q, e), .int .u8 kd, .slice Ay y.length cy] (by rfl) (by rfl) (enters Tryd.func11 (by kernel_rfl) rfl) (Hear_v (s, q, e) kd (.slice Ay y.length cy) y V _ HR.out hT0 SY LY0.out) ?_
    rintro e' V' ⟨A3, c3, rfl, b, hp, hq⟩
    refine ⟨_, rfl, ?_⟩
    try replace n6q := fun q hb => Ne.symm (Nat.ne_of_lt (Nat.lt_of_lt_of_le (lt_of_at N6) (hq q hb)))
    replace Bb := below_step Bb b
    replace L0 := L0.later b
    replace C0 := C0.later b
    replace hT0 := hT0.below b
    try replace N5 := N5.later b
    try replace N6 := below_at b N6 (lt_of_at N6)
    clear b hq SY
    generalize V' = V at *
    refine hK.out _ _ ⟨L0, C0⟩ (fun _ => ?_)
    clear hK K
    try simp only [zA, zS, zZ, Act.put, zP, zQ, zR]
    refine Node.tk 7 ?_ rfl ?_ ?_
    rotate_left
    · intro w hSw; (try dsimp only at hSw); go_simp; try with_reducible rfl
    simp only [zA, zS, zZ, Act.put, zP, zQ, zR]
    refine Node.tk 8 ?_ rfl ?_ ?_
    rotate_left
    · intro w hSw; (try dsimp only at hSw); go_simp; try with_reducible rfl
    simp only [zA, zS, zZ, Act.put, zP, zQ, zR]
    refine Node.tk 9 ?_ rfl ?_ ?_
    rotate_left
    · intro w hSw; (try dsimp only at hSw); go_simp; try with_reducible rfl
    simp only [zA, zS, zZ, Act.put, zP, zQ, zR]
    refine Node.tk 10 ?_ rfl ?_ ?_
    rotate_left
    · intro w hSw; (try dsimp only at hSw); go_simp; try with_reducible rfl
    simp only [zA, zS, zZ, Act.put, zP, zQ, zR]
    refine wpAnyH_ready (rs := [11, 12]) (by kernel_rfl) (by simp) ?_
    refine AllReadyH.cons rfl (fun K hK => ?_) (AllReadyH.cons rfl (fun K hK => ?_) AllReadyH.nil)
    · skip
      refine new_lk rfl fun u5 V' z N5 b => ?_
      have n5 := Nat.le_trans Bb.size z
      replace Bb := below_step Bb b
      replace L0 := L0.later b
      replace C0 := C0.later b
      replace hT0 := hT0.below b
      try replace SY := SY.later b
      try replace hp := hp.later b
      try (have n56 := Nat.ne_of_lt (Nat.lt_of_lt_of_le (lt_of_at N6) z); replace N6 := below_at b N6 (lt_of_at N6))
      clear b z
      generalize V' = V at *
      refine hK.out _ _ ⟨L0, C0⟩ (fun _ => ?_)
      clear hK K
      try simp only [zA, zS, zZ, Act.put, zP, zQ, zR]
      refine Node.on 12 rfl (fun K hK => ?_)
      refine new_fr rfl fun u6 V' z N6 b => ?_
      have n6 := Nat.le_trans Bb.size z
      replace Bb := below_step Bb b
      replace L0 := L0.later b
      replace C0 := C0.later b
      replace hT0 := hT0.below b
      try replace SY := SY.later b
      have n6q : True := trivial
      try (replace n6q := fun q hb => Nat.ne_of_lt (Nat.lt_of_lt_of_le (vblock_lt hp (q := q) hb) z); replace hp := hp.later b)
      try (have n56 := Nat.ne_of_gt (Nat.lt_of_lt_of_le (lt_of_at N5.at_) z); replace N5 := N5.later b)
      clear b z
      generalize V' = V at *
      refine hK.out _ _ ⟨L0, C0⟩ (fun _ => ?_)
      clear hK K
      try simp only [zA, zS, zZ, Act.put, zP, zQ, zR]
      exact kT _ _ ⟨L0, C0⟩ ⟨u5, u6, A3, c3, ⟨rfl, rfl, by simp⟩, n56, N5, N6, hp, n6q, Bb, n5, n6⟩
    · skip
      refine new_fr rfl fun u6 V' z N6 b => ?_
      have n6 := Nat.le_trans Bb.size z
      replace Bb := below_step Bb b
      replace L0 := L0.later b
      replace C0 := C0.later b
      replace hT0 := hT0.below b
      try replace SY := SY.later b
      have n6q : True := trivial
      try (replace n6q := fun q hb => Nat.ne_of_lt (Nat.lt_of_lt_of_le (vblock_lt hp (q := q) hb) z); replace hp := hp.later b)
      try (have n56 := Nat.ne_of_gt (Nat.lt_of_lt_of_le (lt_of_at N5.at_) z); replace N5 := N5.later b)
      clear b z
      generalize V' = V at *
      refine hK.out _ _ ⟨L0, C0⟩ (fun _ => ?_)
      clear hK K
      try simp only [zA, zS, zZ, Act.put, zP, zQ, zR]
      refine Node.on 11 rfl (fun K hK => ?_)
      refine new_lk rfl fun u5 V' z N5 b => ?_
      have n5 := Nat.le_trans Bb.size z
      replace Bb := below_step Bb b
      replace L0 := L0.later b
      replace C0 := C0.later b
      replace hT0 := hT0.below b
      try replace SY := SY.later b
      try replace hp := hp.later b
      try (have n56 := Nat.ne_of_lt (Nat.lt_of_lt_of_le (lt_of_at N6) z); replace N6 := below_at b N6 (lt_of_at N6))
      clear b z
      generalize V' = V at *
      refine hK.out _ _ ⟨L0, C0⟩ (fun _ => ?_)
      clear hK K
      try simp only [zA, zS, zZ, Act.put, zP, zQ, zR]
      exact kT _ _ ⟨L0, C0⟩ ⟨u5, u6, A3, c3, ⟨rfl, rfl, by simp⟩, n56, N5, N6, hp, n6q, Bb, n5, n6⟩
  · skip
    refine new_lk rfl fun u5 V' z N5 b => ?_
    have n5 := Nat.le_trans Bb.size z
    replace Bb := below_step Bb b
    replace L0 := L0.later b
    replace C0 := C0.later b
    replace hT0 := hT0.below b
    try replace SY := SY.later b
    try replace hp := hp.later b
    try (have n56 := Nat.ne_of_lt (Nat.lt_of_lt_of_le (lt_of_at N6) z); replace N6 := below_at b N6 (lt_of_at N6))
    clear b z
    generalize V' = V at *
    refine hK.out _ _ ⟨L0, C0⟩ (fun _ => ?_)
    clear hK K
    try simp only [zA, zS, zZ, Act.put, zP, zQ, zR]
    refine wpAnyH_ready (rs := [6, 12]) (by kernel_rfl) (by simp) ?_
    refine AllReadyH.cons rfl (fun K hK => ?_) (AllReadyH.cons rfl (fun K hK => ?_) AllReadyH.nil)
    · skip
      refine Node.wp_fn 11 [.tmp 47, .tmp 48, .tmp 52] _ [lkv (s, q, e), .int .u8 kd, .slice Ay y.length cy] (by rfl) (by rfl) (enters Tryd.func11 (by kernel_rfl) rfl) (Hear_v (s, q, e) kd (.slice Ay y.length cy) y V _ HR.out hT0 SY LY0.out) ?_
      rintro e' V' ⟨A3, c3, rfl, b, hp, hq⟩
      refine ⟨_, rfl, ?_⟩
      try replace n6q := fun q hb => Ne.symm (Nat.ne_of_lt (Nat.lt_of_lt_of_le (lt_of_at N6) (hq q hb)))
      replace Bb := below_step Bb b
      replace L0 := L0.later b
      replace C0 := C0.later b
      replace hT0 := hT0.below b
      try replace N5 := N5.later b
      try replace N6 := below_at b N6 (lt_of_at N6)
      clear b hq SY
      generalize V' = V at *
      refine hK.out _ _ ⟨L0, C0⟩ (fun _ => ?_)
      clear hK K
      try simp only [zA, zS, zZ, Act.put, zP, zQ, zR]
      refine Node.tk 7 ?_ rfl ?_ ?_
      rotate_left
      · intro w hSw; (try dsimp only at hSw); go_simp; try with_reducible rfl
      simp only [zA, zS, zZ, Act.put, zP, zQ, zR]
      refine Node.tk 8 ?_ rfl ?_ ?_
      rotate_left
      · intro w hSw; (try dsimp only at hSw); go_simp; try with_reducible rfl
      simp only [zA, zS, zZ, Act.put, zP, zQ, zR]
      refine Node.tk 9 ?_ rfl ?_ ?_
      rotate_left
      · intro w hSw; (try dsimp only at hSw); go_simp; try with_reducible rfl
      simp only [zA, zS, zZ, Act.put, zP, zQ, zR]
      refine Node.tk 10 ?_ rfl ?_ ?_
      rotate_left
      · intro w hSw; (try dsimp only at hSw); go_simp; try with_reducible rfl
      simp only [zA, zS, zZ, Act.put, zP, zQ, zR]
      refine Node.on 12 rfl (fun K hK => ?_)
      refine new_fr rfl fun u6 V' z N6 b => ?_
      have n6 := Nat.le_trans Bb.size z
      replace Bb := below_step Bb b
      replace L0 := L0.later b
      replace C0 := C0.later b
      replace hT0 := hT0.below b
      try replace SY := SY.later b
      have n6q : True := trivial
      try (replace n6q := fun q hb => Nat.ne_of_lt (Nat.lt_of_lt_of_le (vblock_lt hp (q := q) hb) z); replace hp := hp.later b)
      try (have n56 := Nat.ne_of_gt (Nat.lt_of_lt_of_le (lt_of_at N5.at_) z); replace N5 := N5.later b)
      clear b z
      generalize V' = V at *
      refine hK.out _ _ ⟨L0, C0⟩ (fun _ => ?_)
      clear hK K
      try simp only [zA, zS, zZ, Act.put, zP, zQ, zR]
      exact kT _ _ ⟨L0, C0⟩ ⟨u5, u6, A3, c3, ⟨rfl, rfl, by simp⟩, n56, N5, N6, hp, n6q, Bb, n5, n6⟩
    · skip
      refine new_fr rfl fun u6 V' z N6 b => ?_
      have n6 := Nat.le_trans Bb.size z
      replace Bb := below_step Bb b
      replace L0 := L0.later b
      replace C0 := C0.later b
      replace hT0 := hT0.below b
      try replace SY := SY.later b
      have n6q : True := trivial
      try (replace n6q := fun q hb => Nat.ne_of_lt (Nat.lt_of_lt_of_le (vblock_lt hp (q := q) hb) z); replace hp := hp.later b)
      try (have n56 := Nat.ne_of_gt (Nat.lt_of_lt_of_le (lt_of_at N5.at_) z); replace N5 := N5.later b)
      clear b z
      generalize V' = V at *
      refine hK.out _ _ ⟨L0, C0⟩ (fun _ => ?_)
      clear hK K
      try simp only [zA, zS, zZ, Act.put, zP, zQ, zR]
      refine Node.on 6 rfl (fun K hK => ?_)
      refine Node.wp_fn 11 [.tmp 47, .tmp 48, .tmp 52] _ [lkv (s, q, e), .int .u8 kd, .slice Ay y.length cy] (by rfl) (by rfl) (enters Tryd.func11 (by kernel_rfl) rfl) (Hear_v (s, q, e) kd (.slice Ay y.length cy) y V _ HR.out hT0 SY LY0.out) ?_
      rintro e' V' ⟨A3, c3, rfl, b, hp, hq⟩
      refine ⟨_, rfl, ?_⟩
      try replace n6q := fun q hb => Ne.symm (Nat.ne_of_lt (Nat.lt_of_lt_of_le (lt_of_at N6) (hq q hb)))
      replace Bb := below_step Bb b
      replace L0 := L0.later b
      replace C0 := C0.later b
      replace hT0 := hT0.below b
      try replace N5 := N5.later b
      try replace N6 := below_at b N6 (lt_of_at N6)
      clear b hq SY
      generalize V' = V at *
      refine hK.out _ _ ⟨L0, C0⟩ (fun _ => ?_)
      clear hK K
      try simp only [zA, zS, zZ, Act.put, zP, zQ, zR]
      refine Node.tk 7 ?_ rfl ?_ ?_
      rotate_left
      · intro w hSw; (try dsimp only at hSw); go_simp; try with_reducible rfl
      simp only [zA, zS, zZ, Act.put, zP, zQ, zR]
      refine Node.tk 8 ?_ rfl ?_ ?_
      rotate_left
      · intro w hSw; (try dsimp only at hSw); go_simp; try with_reducible rfl
      simp only [zA, zS, zZ, Act.put, zP, zQ, zR]
      refine Node.tk 9 ?_ rfl ?_ ?_
      rotate_left
      · intro w hSw; (try dsimp only at hSw); go_simp; try with_reducible rfl
      simp only [zA, zS, zZ, Act.put, zP, zQ, zR]
      refine Node.tk 10 ?_ rfl ?_ ?_
      rotate_left
      · intro w hSw; (try dsimp only at hSw); go_simp; try with_reducible rfl
      simp only [zA, zS, zZ, Act.put, zP, zQ, zR]
      exact kT _ _ ⟨L0, C0⟩ ⟨u5, u6, A3, c3, ⟨rfl, rfl, by simp⟩, n56, N5, N6, hp, n6q, Bb, n5, n6⟩
  · skip
    refine new_fr rfl fun u6 V' z N6 b => ?_
    have n6 := Nat.le_trans Bb.size z
    replace Bb := below_step Bb b
    replace L0 := L0.later b
    replace C0 := C0.later b
    replace hT0 := hT0.below b
    try replace SY := SY.later b
    have n6q : True := trivial
    try (replace n6q := fun q hb => Nat.ne_of_lt (Nat.lt_of_lt_of_le (vblock_lt hp (q := q) hb) z); replace hp := hp.later b)
    try (have n56 := Nat.ne_of_gt (Nat.lt_of_lt_of_le (lt_of_at N5.at_) z); replace N5 := N5.later b)
    clear b z
    generalize V' = V at *
    refine hK.out _ _ ⟨L0, C0⟩ (fun _ => ?_)
    clear hK K
    try simp only [zA, zS, zZ, Act.put, zP, zQ, zR]
    refine wpAnyH_ready (rs := [6, 11]) (by kernel_rfl) (by simp) ?_
    refine AllReadyH.cons rfl (fun K hK => ?_) (AllReadyH.cons rfl (fun K hK => ?_) AllReadyH.nil)
    · skip
      refine Node.wp_fn 11 [.tmp 47, .tmp 48, .tmp 52] _ [lkv (s, q, e), .int .u8 kd, .slice Ay y.length cy] (by rfl) (by rfl) (enters Tryd.func11 (by kernel_rfl) rfl) (Hear_v (s, q, e) kd (.slice Ay y.length cy) y V _ HR.out hT0 SY LY0.out) ?_
      rintro e' V' ⟨A3, c3, rfl, b, hp, hq⟩
      refine ⟨_, rfl, ?_⟩
      try replace n6q := fun q hb => Ne.symm (Nat.ne_of_lt (Nat.lt_of_lt_of_le (lt_of_at N6) (hq q hb)))
      replace Bb := below_step Bb b
      replace L0 := L0.later b
      replace C0 := C0.later b
      replace hT0 := hT0.below b
      try replace N5 := N5.later b
      try replace N6 := below_at b N6 (lt_of_at N6)
      clear b hq SY
      generalize V' = V at *
      refine hK.out _ _ ⟨L0, C0⟩ (fun _ => ?_)
      clear hK K
      try simp only [zA, zS, zZ, Act.put, zP, zQ, zR]
      refine Node.tk 7 ?_ rfl ?_ ?_
      rotate_left
      · intro w hSw; (try dsimp only at hSw); go_simp; try with_reducible rfl
      simp only [zA, zS, zZ, Act.put, zP, zQ, zR]
      refine Node.tk 8 ?_ rfl ?_ ?_
      rotate_left
      · intro w hSw; (try dsimp only at hSw); go_simp; try with_reducible rfl
      simp only [zA, zS, zZ, Act.put, zP, zQ, zR]
      refine Node.tk 9 ?_ rfl ?_ ?_
      rotate_left
      · intro w hSw; (try dsimp only at hSw); go_simp; try with_reducible rfl
      simp only [zA, zS, zZ, Act.put, zP, zQ, zR]
      refine Node.tk 10 ?_ rfl ?_ ?_
      rotate_left
      · intro w hSw; (try dsimp only at hSw); go_simp; try with_reducible rfl
      simp only [zA, zS, zZ, Act.put, zP, zQ, zR]
      refine Node.on 11 rfl (fun K hK => ?_)
      refine new_lk rfl fun u5 V' z N5 b => ?_
      have n5 := Nat.le_trans Bb.size z
      replace Bb := below_step Bb b
      replace L0 := L0.later b
      replace C0 := C0.later b
      replace hT0 := hT0.below b
      try replace SY := SY.later b
      try replace hp := hp.later b
      try (have n56 := Nat.ne_of_lt (Nat.lt_of_lt_of_le (lt_of_at N6) z); replace N6 := below_at b N6 (lt_of_at N6))
      clear b z
      generalize V' = V at *
      refine hK.out _ _ ⟨L0, C0⟩ (fun _ => ?_)
      clear hK K
      try simp only [zA, zS, zZ, Act.put, zP, zQ, zR]
      exact kT _ _ ⟨L0, C0⟩ ⟨u5, u6, A3, c3, ⟨rfl, rfl, by simp⟩, n56, N5, N6, hp, n6q, Bb, n5, n6⟩
    · skip
      refine new_lk rfl fun u5 V' z N5 b => ?_
      have n5 := Nat.le_trans Bb.size z
      replace Bb := below_step Bb b
      replace L0 := L0.later b
      replace C0 := C0.later b
      replace hT0 := hT0.below b
      try replace SY := SY.later b
      try replace hp := hp.later b
      try (have n56 := Nat.ne_of_lt (Nat.lt_of_lt_of_le (lt_of_at N6) z); replace N6 := below_at b N6 (lt_of_at N6))
      clear b z
      generalize V' = V at *
      refine hK.out _ _ ⟨L0, C0⟩ (fun _ => ?_)
      clear hK K
      try simp only [zA, zS, zZ, Act.put, zP, zQ, zR]
      refine Node.on 6 rfl (fun K hK => ?_)
      refine Node.wp_fn 11 [.tmp 47, .tmp 48, .tmp 52] _ [lkv (s, q, e), .int .u8 kd, .slice Ay y.length cy] (by rfl) (by rfl) (enters Tryd.func11 (by kernel_rfl) rfl) (Hear_v (s, q, e) kd (.slice Ay y.length cy) y V _ HR.out hT0 SY LY0.out) ?_
      rintro e' V' ⟨A3, c3, rfl, b, hp, hq⟩
      refine ⟨_, rfl, ?_⟩
      try replace n6q := fun q hb => Ne.symm (Nat.ne_of_lt (Nat.lt_of_lt_of_le (lt_of_at N6) (hq q hb)))
      replace Bb := below_step Bb b
      replace L0 := L0.later b
      replace C0 := C0.later b
      replace hT0 := hT0.below b
      try replace N5 := N5.later b
      try replace N6 := below_at b N6 (lt_of_at N6)
      clear b hq SY
      generalize V' = V at *
      refine hK.out _ _ ⟨L0, C0⟩ (fun _ => ?_)
      clear hK K
      try simp only [zA, zS, zZ, Act.put, zP, zQ, zR]
      refine Node.tk 7 ?_ rfl ?_ ?_
      rotate_left
      · intro w hSw; (try dsimp only at hSw); go_simp; try with_reducible rfl
      simp only [zA, zS, zZ, Act.put, zP, zQ, zR]
      refine Node.tk 8 ?_ rfl ?_ ?_
      rotate_left
      · intro w hSw; (try dsimp only at hSw); go_simp; try with_reducible rfl
      simp only [zA, zS, zZ, Act.put, zP, zQ, zR]
      refine Node.tk 9 ?_ rfl ?_ ?_
      rotate_left
      · intro w hSw; (try dsimp only at hSw); go_simp; try with_reducible rfl
      simp only [zA, zS, zZ, Act.put, zP, zQ, zR]
      refine Node.tk 10 ?_ rfl ?_ ?_
      rotate_left
      · intro w hSw; (try dsimp only at hSw); go_simp; try with_reducible rfl
      simp only [zA, zS, zZ, Act.put, zP, zQ, zR]
      exact kT _ _ ⟨L0, C0⟩ ⟨u5, u6, A3, c3, ⟨rfl, rfl, by simp⟩, n56, N5, N6, hp, n6q, Bb, n5, n6⟩
set_option maxHeartbeats 8000000 in
theorem lt7 (q0 : Act) (bA oA cf n : Nat) (kd : Int) (Ap : Option Addr) (cp m : Nat) (g6 g7 g10 : Nat) (gc gd : Nat) (er0 : Int) (i : Nat) (s q e : Int) (er : Int) (s' q' e' : Int) (f : Frm) (y : List (BitVec 8)) (us : List Value) (Ay : Option Addr) (cy : Nat) (hr : (((s', q', e'), er, f) : Lst × Int × Frm) = hearV kd y (s, q, e)) (hin : i < n) (hu : us[i]? = some (.slice Ay y.length cy)) (hly : y.length ≤ 140737488355320) (hS : Sl q0 166 [(2, .int .u8 kd), (3, .slice (some ⟨bA, oA, none⟩) n cf), (5, .slice Ap m cp), (6, .pointer (some ⟨g6, 0, none⟩)), (7, .pointer (some ⟨g7, 0, none⟩)), (10, .pointer (some ⟨g10, 0, none⟩)), (12, .bool false), (13, .int .i64 (i : Nat)), (14, .pointer (some ⟨gc, 0, none⟩)), (15, .pointer (some ⟨gd, 0, none⟩)), (16, .int .i64 er0)]) (w : World) (L : LVar w g7 s q e) (CS : SliceAt w 1 (.slice (some ⟨bA, oA, none⟩) n cf) n us) (SY : SliceAt w 1 (.slice Ay y.length cy) y.length (u8s y)) : rT7.wp Tryd.prog (nrm fun a' w' => ∃ ge gf, Sl a' 166 [(2, .int .u8 kd), (3, .slice (some ⟨bA, oA, none⟩) n cf), (5, .slice Ap m cp), (6, .pointer (some ⟨g6, 0, none⟩)), (7, .pointer (some ⟨g7, 0, none⟩)), (10, .pointer (some ⟨g10, 0, none⟩)), (12, .bool false), (13, .int .i64 (i : Nat)), (14, .pointer (some ⟨gc, 0, none⟩)), (15, .pointer (some ⟨gd, 0, none⟩)), (16, .int .i64 er0), (17, .pointer (some ⟨ge, 0, none⟩)), (18, .pointer (some ⟨gf, 0, none⟩)), (19, .int .i64 er)] ∧ LVar w' ge s' q' e' ∧ FV w' gf f ∧ w.heap.size ≤ ge ∧ w.heap.size ≤ gf ∧ Below w.heap.size w w') q0 w := by
  have HR := Lib.hid hr
  have LY0 := Lib.hid hly
  have hT : True := trivial
  have i1 : (0 : Int) ≤ (i : Int) ∧ (i : Int) < (n : Int) := by omega
  have hL5 : ∀ g, w.heap.size ≤ g → g7 ≠ g := fun g hg => Nat.ne_of_lt (Nat.lt_of_lt_of_le (lt_of_at L.at_) hg)
  have hC5 : ∀ g, w.heap.size ≤ g → bA ≠ g := fun g hg => Nat.ne_of_lt (Nat.lt_of_lt_of_le (vblock_lt CS ⟨by omega, rfl⟩) hg)
  clear hr hly
  obtain ⟨j, rfl, hj⟩ := hS.lit166
  have h2 : j 2 = .int .u8 kd := hj (2, _) (by simp)
  have h3 : j 3 = .slice (some ⟨bA, oA, none⟩) n cf := hj (3, _) (by simp)
  have h5 : j 5 = .slice Ap m cp := hj (5, _) (by simp)
  have h6 : j 6 = .pointer (some ⟨g6, 0, none⟩) := hj (6, _) (by simp)
  have h7 : j 7 = .pointer (some ⟨g7, 0, none⟩) := hj (7, _) (by simp)
  have h10 : j 10 = .pointer (some ⟨g10, 0, none⟩) := hj (10, _) (by simp)
  have h12 : j 12 = .bool false := hj (12, _) (by simp)
  have h13 : j 13 = .int .i64 (i : Nat) := hj (13, _) (by simp)
  have h14 : j 14 = .pointer (some ⟨gc, 0, none⟩) := hj (14, _) (by simp)
  have h15 : j 15 = .pointer (some ⟨gd, 0, none⟩) := hj (15, _) (by simp)
  have h16 : j 16 = .int .i64 er0 := hj (16, _) (by simp)
  clear hj hS
  unfold rT7 cT loopT rgT bodyT
  simp only [Tryd.f3, Option.getD_some, nthSeq, cfst, csnd, cyes, copsOf, lit166, List.cons_append, List.nil_append, h2, h3, h5, h6, h7, h10, h12, h13, h14, h15, h16]
  refine Node.region_key (fun w' => LVar w' g7 s q e ∧ SliceAt w' 1 (.slice (some ⟨bA, oA, none⟩) n cf) n us) 3 #[true, true, true, true, true, true, true, true, true, true, true, true, true, false, false, false] (fun a V => ∃ (u5 u6 : Nat) (A3 : Option Addr) (c3 : Nat), Sl a 166 [(2, .int .u8 kd), (3, .slice (some ⟨bA, oA, none⟩) n cf), (5, .slice Ap m cp), (6, .pointer (some ⟨g6, 0, none⟩)), (7, .pointer (some ⟨g7, 0, none⟩)), (10, .pointer (some ⟨g10, 0, none⟩)), (12, .bool false), (13, .int .i64 (i : Nat)), (14, .pointer (some ⟨gc, 0, none⟩)), (15, .pointer (some ⟨gd, 0, none⟩)), (16, .int .i64 er0), (17, .pointer (some ⟨u5, 0, none⟩)), (18, .pointer (some ⟨u6, 0, none⟩)), (65, lk s' q' e'), (66, fv (f.1.toNat : Int) (f.2.1.toNat : Int) (.slice A3 f.2.2.length c3)), (67, .int .i64 er)] ∧ u6 ≠ u5 ∧ LVar V u5 0 0 0 ∧ V.heap[u6]? = some (.cells #[.int .u8 0, .int .u8 0, .slice none 0 0] 41 (0, 0)) ∧ SliceAt V 1 (.slice A3 f.2.2.length c3) f.2.2.length (u8s f.2.2) ∧ (∀ q, VB (.slice A3 f.2.2.length c3) f.2.2.length q → q ≠ u6) ∧ Below w.heap.size w V ∧ w.heap.size ≤ u5 ∧ w.heap.size ≤ u6) ?_ (fun kT => ?_)
  · rintro a V hS ⟨u5, u6, A3, c3, hs, n56, N5, N6, hp, n6q, Bb, n5, n6⟩
    obtain ⟨L0, C0⟩ := hS
    obtain ⟨j, rfl, hj⟩ := hs.lit166
    have zk2 : j 2 = .int .u8 kd := hj (2, _) (by simp)
    have zk3 : j 3 = .slice (some ⟨bA, oA, none⟩) n cf := hj (3, _) (by simp)
    have zk5 : j 5 = .slice Ap m cp := hj (5, _) (by simp)
    have zk6 : j 6 = .pointer (some ⟨g6, 0, none⟩) := hj (6, _) (by simp)
    have zk7 : j 7 = .pointer (some ⟨g7, 0, none⟩) := hj (7, _) (by simp)
    have zk10 : j 10 = .pointer (some ⟨g10, 0, none⟩) := hj (10, _) (by simp)
    have zk12 : j 12 = .bool false := hj (12, _) (by simp)
    have zk13 : j 13 = .int .i64 (i : Nat) := hj (13, _) (by simp)
    have zk14 : j 14 = .pointer (some ⟨gc, 0, none⟩) := hj (14, _) (by simp)
    have zk15 : j 15 = .pointer (some ⟨gd, 0, none⟩) := hj (15, _) (by simp)
    have zk16 : j 16 = .int .i64 er0 := hj (16, _) (by simp)
    have zk17 : j 17 = .pointer (some ⟨u5, 0, none⟩) := hj (17, _) (by simp)
    have zk18 : j 18 = .pointer (some ⟨u6, 0, none⟩) := hj (18, _) (by simp)
    have zk65 : j 65 = lk s' q' e' := hj (65, _) (by simp)
    have zk66 : j 66 = fv (f.1.toNat : Int) (f.2.1.toNat : Int) (.slice A3 f.2.2.length c3) := hj (66, _) (by simp)
    have zk67 : j 67 = .int .i64 er := hj (67, _) (by simp)
    clear hj hs
    simp only [lit166, List.cons_append, List.nil_append, zk2, zk3, zk5, zk6, zk7, zk10, zk12, zk13, zk14, zk15, zk16, zk17, zk18, zk65, zk66, zk67]
    refine Node.on 13 rfl (fun K hK => ?_)
    refine wp_st_lk N5 rfl rfl rfl rfl ?_
    have hn5 := lt_of_at N5.at_
    have k5 := hL5 u5 n5
    replace L0 := L0.far3 (g' := u5) k5 s' q' e'
    replace N6 := frame_far3 N6 (g' := u5) n56 s' q' e'
    replace C0 := slice_far C0 (hC5 u5 n5) (.int .i64 s') (.int .i64 q') (.int .i64 e')
    have N5' := N5.set3 s' q' e'
    replace Bb := ((Bb.setCell (p := ⟨u5, 0, none⟩) n5 (.int .i64 s')).setCell (p := ⟨u5, 1, none⟩) n5 (.int .i64 q')).setCell (p := ⟨u5, 2, none⟩) n5 (.int .i64 e')
    replace hp := bytes_far hp N5 (.int .i64 s') (.int .i64 q') (.int .i64 e')
    clear N5 hn5 k5
    generalize ((V.setCell ⟨u5, 0, none⟩ (.int .i64 s')).setCell ⟨u5, 1, none⟩ (.int .i64 q')).setCell ⟨u5, 2, none⟩ (.int .i64 e') = V at *
    refine hK.out _ _ ⟨L0, C0⟩ (fun _ => ?_)
    clear hK K
    try simp only [zA, zS, zZ, Act.put, zP, zQ, zR]
    refine Node.on 14 rfl (fun K hK => ?_)
    refine wp_st_fr N6 rfl rfl rfl rfl ?_
    have F := FV.put3 (f := f) N6 hp n6q
    have k6 := hL5 u6 n6
    replace L0 := L0.at_
    replace L0 : LVar (((V.setCell ⟨u6, 0, none⟩ (.int .u8 (f.1.toNat : Int))).setCell ⟨u6, 1, none⟩ (.int .u8 (f.2.1.toNat : Int))).setCell ⟨u6, 2, none⟩ (.slice A3 f.2.2.length c3)) g7 s q e := ⟨frame_far3' L0 k6 _ _ _⟩
    replace C0 := slice_far C0 (hC5 u6 n6) (.int .u8 (f.1.toNat : Int)) (.int .u8 (f.2.1.toNat : Int)) (.slice A3 f.2.2.length c3)
    replace N5' : LVar (((V.setCell ⟨u6, 0, none⟩ (.int .u8 (f.1.toNat : Int))).setCell ⟨u6, 1, none⟩ (.int .u8 (f.2.1.toNat : Int))).setCell ⟨u6, 2, none⟩ (.slice A3 f.2.2.length c3)) u5 s' q' e' := ⟨frame_far3' N5'.at_ (Ne.symm n56) _ _ _⟩
    replace Bb := ((Bb.setCell (p := ⟨u6, 0, none⟩) n6 (.int .u8 (f.1.toNat : Int))).setCell (p := ⟨u6, 1, none⟩) n6 (.int .u8 (f.2.1.toNat : Int))).setCell (p := ⟨u6, 2, none⟩) n6 (.slice A3 f.2.2.length c3)
    clear N6 hp n6q k6
    generalize ((V.setCell ⟨u6, 0, none⟩ (.int .u8 (f.1.toNat : Int))).setCell ⟨u6, 1, none⟩ (.int .u8 (f.2.1.toNat : Int))).setCell ⟨u6, 2, none⟩ (.slice A3 f.2.2.length c3) = V at *
    refine hK.out _ _ ⟨L0, C0⟩ (fun _ => ?_)
    clear hK K
    try simp only [zA, zS, zZ, Act.put, zP, zQ, zR]
    refine Node.tk 15 ?_ rfl ?_ ?_
    rotate_left
    · intro w hSw; (try dsimp only at hSw); go_simp; try with_reducible rfl
    simp only [zA, zS, zZ, Act.put, zP, zQ, zR]
    refine wpAnyH_done (by kernel_rfl) ?_ _
    exact ⟨u5, u6, ⟨rfl, rfl, by simp⟩, N5', F, n5, n6, Bb⟩
  refine wp_region_held_drew (S := (fun w' => LVar w' g7 s q e ∧ SliceAt w' 1 (.slice (some ⟨bA, oA, none⟩) n cf) n us)) (by kernel_rfl) ?_ (fun hHeld => ?_)
  · exact ⟨⟨L.at_⟩, CS⟩
  have Bb : Below w.heap.size w w.drew := (Below.refl _ w).drew
  clear hHeld
  have L0 := L.later Bb
  have C0 := CS.later Bb
  have hT0 : True := trivial
  replace SY := SY.later Bb
  clear L hT CS
  generalize w.drew = V at *
  have hHeld : LVar V g7 s q e ∧ SliceAt V 1 (.slice (some ⟨bA, oA, none⟩) n cf) n us := ⟨L0, C0⟩
  refine Node.tk 0 (lk s q e) rfl (fun _ hSw => run_ld hSw.1 rfl rfl) ?_
  simp only [zA, zS, zZ, Act.put, zP, zQ, zR]
  refine Node.tk 1 ?_ rfl ?_ ?_
  rotate_left
  · intro w hSw; (try dsimp only at hSw); go_simp; try with_reducible rfl
  simp only [zA, zS, zZ, Act.put, zP, zQ, zR]
  refine Node.tk 2 ?_ rfl ?_ ?_
  rotate_left
  · intro w hSw; (try dsimp only at hSw); go_simp; try with_reducible rfl
  simp only [zA, zS, zZ, Act.put, zP, zQ, zR]
  refine Node.tk 3 ?_ rfl ?_ ?_
  rotate_left
  · intro w hSw; (try dsimp only at hSw); go_simp; try with_reducible rfl
  simp only [zA, zS, zZ, Act.put, zP, zQ, zR]
  refine Node.tk 4 ?_ rfl ?_ ?_
  rotate_left
  · intro w hSw; (try dsimp only at hSw); go_simp; try with_reducible rfl
  simp only [zA, zS, zZ, Act.put, zP, zQ, zR]
  refine Node.tk 5 (.slice Ay y.length cy) rfl (fun _ hSw => run_el (slice_cell hSw.2 hu) rfl rfl) ?_
  simp only [zA, zS, zZ, Act.put, zP, zQ, zR]
  clear hHeld
  refine wpAnyH_ready (rs := [6, 11, 12]) (by kernel_rfl) (by simp) ?_
  refine AllReadyH.cons rfl (fun K hK => ?_) (AllReadyH.cons rfl (fun K hK => ?_) (AllReadyH.cons rfl (fun K hK => ?_) AllReadyH.nil))
  · skip
    refine Node.wp_fn 12 [.tmp 58, .tmp 59, .tmp 63] _ [lkv (s, q, e), .int .u8 kd, .slice Ay y.length cy] (by rfl) (by rfl) (enters Tryd.func12 (by kernel_rfl) rfl) (r29Hear_v (s, q, e) kd (.slice Ay y.length cy) y V _ HR.out SY LY0.out) ?_
    rintro e' V' ⟨A3, c3, rfl, b, hp, hq⟩
    refine ⟨_, rfl, ?_⟩
    try replace n6q := fun q hb => Ne.symm (Nat.ne_of_lt (Nat.lt_of_lt_of_le (lt_of_at N6) (hq q hb)))
    replace Bb := below_step Bb b
    replace L0 := L0.later b
    replace C0 := C0.later b
    try replace N5 := N5.later b
    try replace N6 := below_at b N6 (lt_of_at N6)
    clear b hq SY
    generalize V' = V at *
    refine hK.out _ _ ⟨L0, C0⟩ (fun _ => ?_)
    clear hK K
    try simp only [zA, zS, zZ, Act.put, zP, zQ, zR]
    refine Node.tk 7 ?_ rfl ?_ ?_
    rotate_left
    · intro w hSw; (try dsimp only at hSw); go_simp; try with_reducible rfl
    simp only [zA, zS, zZ, Act.put, zP, zQ, zR]
    refine Node.tk 8 ?_ rfl ?_ ?_
    rotate_left
    · intro w hSw; (try dsimp only at hSw); go_simp; try with_reducible rfl
    simp only [zA, zS, zZ, Act.put, zP, zQ, zR]
    refine Node.tk 9 ?_ rfl ?_ ?_
    rotate_left
    · intro w hSw; (try dsimp only at hSw); go_simp; try with_reducible rfl
    simp only [zA, zS, zZ, Act.put, zP, zQ, zR]
    refine Node.tk 10 ?_ rfl ?_ ?_
    rotate_left
    · intro w hSw; (try dsimp only at hSw); go_simp; try with_reducible rfl
    simp only [zA, zS, zZ, Act.put, zP, zQ, zR]
    refine wpAnyH_ready (rs := [11, 12]) (by kernel_rfl) (by simp) ?_
    refine AllReadyH.cons rfl (fun K hK => ?_) (AllReadyH.cons rfl (fun K hK => ?_) AllReadyH.nil)
    · skip
      refine new_lk rfl fun u5 V' z N5 b => ?_
      have n5 := Nat.le_trans Bb.size z
      replace Bb := below_step Bb b
      replace L0 := L0.later b
      replace C0 := C0.later b
      try replace SY := SY.later b
      try replace hp := hp.later b
      try (have n56 := Nat.ne_of_lt (Nat.lt_of_lt_of_le (lt_of_at N6) z); replace N6 := below_at b N6 (lt_of_at N6))
      clear b z
      generalize V' = V at *
      refine hK.out _ _ ⟨L0, C0⟩ (fun _ => ?_)
      clear hK K
      try simp only [zA, zS, zZ, Act.put, zP, zQ, zR]
      refine Node.on 12 rfl (fun K hK => ?_)
      refine new_fr rfl fun u6 V' z N6 b => ?_
      have n6 := Nat.le_trans Bb.size z
      replace Bb := below_step Bb b
      replace L0 := L0.later b
      replace C0 := C0.later b
      try replace SY := SY.later b
      have n6q : True := trivial
      try (replace n6q := fun q hb => Nat.ne_of_lt (Nat.lt_of_lt_of_le (vblock_lt hp (q := q) hb) z); replace hp := hp.later b)
      try (have n56 := Nat.ne_of_gt (Nat.lt_of_lt_of_le (lt_of_at N5.at_) z); replace N5 := N5.later b)
      clear b z
      generalize V' = V at *
      refine hK.out _ _ ⟨L0, C0⟩ (fun _ => ?_)
      clear hK K
      try simp only [zA, zS, zZ, Act.put, zP, zQ, zR]
      exact kT _ _ ⟨L0, C0⟩ ⟨u5, u6, A3, c3, ⟨rfl, rfl, by simp⟩, n56, N5, N6, hp, n6q, Bb, n5, n6⟩
    · skip
      refine new_fr rfl fun u6 V' z N6 b => ?_
      have n6 := Nat.le_trans Bb.size z
      replace Bb := below_step Bb b
      replace L0 := L0.later b
      replace C0 := C0.later b
      try replace SY := SY.later b
      have n6q : True := trivial
      try (replace n6q := fun q hb => Nat.ne_of_lt (Nat.lt_of_lt_of_le (vblock_lt hp (q := q) hb) z); replace hp := hp.later b)
      try (have n56 := Nat.ne_of_gt (Nat.lt_of_lt_of_le (lt_of_at N5.at_) z); replace N5 := N5.later b)
      clear b z
      generalize V' = V at *
      refine hK.out _ _ ⟨L0, C0⟩ (fun _ => ?_)
      clear hK K
      try simp only [zA, zS, zZ, Act.put, zP, zQ, zR]
      refine Node.on 11 rfl (fun K hK => ?_)
      refine new_lk rfl fun u5 V' z N5 b => ?_
      have n5 := Nat.le_trans Bb.size z
      replace Bb := below_step Bb b
      replace L0 := L0.later b
      replace C0 := C0.later b
      try replace SY := SY.later b
      try replace hp := hp.later b
      try (have n56 := Nat.ne_of_lt (Nat.lt_of_lt_of_le (lt_of_at N6) z); replace N6 := below_at b N6 (lt_of_at N6))
      clear b z
      generalize V' = V at *
      refine hK.out _ _ ⟨L0, C0⟩ (fun _ => ?_)
      clear hK K
      try simp only [zA, zS, zZ, Act.put, zP, zQ, zR]
      exact kT _ _ ⟨L0, C0⟩ ⟨u5, u6, A3, c3, ⟨rfl, rfl, by simp⟩, n56, N5, N6, hp, n6q, Bb, n5, n6⟩
  · skip
    refine new_lk rfl fun u5 V' z N5 b => ?_
    have n5 := Nat.le_trans Bb.size z
    replace Bb := below_step Bb b
    replace L0 := L0.later b
    replace C0 := C0.later b
    try replace SY := SY.later b
    try replace hp := hp.later b
    try (have n56 := Nat.ne_of_lt (Nat.lt_of_lt_of_le (lt_of_at N6) z); replace N6 := below_at b N6 (lt_of_at N6))
    clear b z
    generalize V' = V at *
    refine hK.out _ _ ⟨L0, C0⟩ (fun _ => ?_)
    clear hK K
    try simp only [zA, zS, zZ, Act.put, zP, zQ, zR]
    refine wpAnyH_ready (rs := [6, 12]) (by kernel_rfl) (by simp) ?_
    refine AllReadyH.cons rfl (fun K hK => ?_) (AllReadyH.cons rfl (fun K hK => ?_) AllReadyH.nil)
    · skip
      refine Node.wp_fn 12 [.tmp 58, .tmp 59, .tmp 63] _ [lkv (s, q, e), .int .u8 kd, .slice Ay y.length cy] (by rfl) (by rfl) (enters Tryd.func12 (by kernel_rfl) rfl) (r29Hear_v (s, q, e) kd (.slice Ay y.length cy) y V _ HR.out SY LY0.out) ?_
      rintro e' V' ⟨A3, c3, rfl, b, hp, hq⟩
      refine ⟨_, rfl, ?_⟩
      try replace n6q := fun q hb => Ne.symm (Nat.ne_of_lt (Nat.lt_of_lt_of_le (lt_of_at N6) (hq q hb)))
      replace Bb := below_step Bb b
      replace L0 := L0.later b
      replace C0 := C0.later b
      try replace N5 := N5.later b
      try replace N6 := below_at b N6 (lt_of_at N6)
      clear b hq SY
      generalize V' = V at *
      refine hK.out _ _ ⟨L0, C0⟩ (fun _ => ?_)
      clear hK K
      try simp only [zA, zS, zZ, Act.put, zP, zQ, zR]
      refine Node.tk 7 ?_ rfl ?_ ?_
      rotate_left
      · intro w hSw; (try dsimp only at hSw); go_simp; try with_reducible rfl
      simp only [zA, zS, zZ, Act.put, zP, zQ, zR]
      refine Node.tk 8 ?_ rfl ?_ ?_
      rotate_left
      · intro w hSw; (try dsimp only at hSw); go_simp; try with_reducible rfl
      simp only [zA, zS, zZ, Act.put, zP, zQ, zR]
      refine Node.tk 9 ?_ rfl ?_ ?_
      rotate_left
      · intro w hSw; (try dsimp only at hSw); go_simp; try with_reducible rfl
      simp only [zA, zS, zZ, Act.put, zP, zQ, zR]
      refine Node.tk 10 ?_ rfl ?_ ?_
      rotate_left
      · intro w hSw; (try dsimp only at hSw); go_simp; try with_reducible rfl
      simp only [zA, zS, zZ, Act.put, zP, zQ, zR]
      refine Node.on 12 rfl (fun K hK => ?_)
      refine new_fr rfl fun u6 V' z N6 b => ?_
      have n6 := Nat.le_trans Bb.size z
      replace Bb := below_step Bb b
      replace L0 := L0.later b
      replace C0 := C0.later b
      try replace SY := SY.later b
      have n6q : True := trivial
      try (replace n6q := fun q hb => Nat.ne_of_lt (Nat.lt_of_lt_of_le (vblock_lt hp (q := q) hb) z); replace hp := hp.later b)
      try (have n56 := Nat.ne_of_gt (Nat.lt_of_lt_of_le (lt_of_at N5.at_) z); replace N5 := N5.later b)
      clear b z
      generalize V' = V at *
      refine hK.out _ _ ⟨L0, C0⟩ (fun _ => ?_)
      clear hK K
      try simp only [zA, zS, zZ, Act.put, zP, zQ, zR]
      exact kT _ _ ⟨L0, C0⟩ ⟨u5, u6, A3, c3, ⟨rfl, rfl, by simp⟩, n56, N5, N6, hp, n6q, Bb, n5, n6⟩
    · skip
      refine new_fr rfl fun u6 V' z N6 b => ?_
      have n6 := Nat.le_trans Bb.size z
      replace Bb := below_step Bb b
      replace L0 := L0.later b
      replace C0 := C0.later b
      try replace SY := SY.later b
      have n6q : True := trivial
      try (replace n6q := fun q hb => Nat.ne_of_lt (Nat.lt_of_lt_of_le (vblock_lt hp (q := q) hb) z); replace hp := hp.later b)
      try (have n56 := Nat.ne_of_gt (Nat.lt_of_lt_of_le (lt_of_at N5.at_) z); replace N5 := N5.later b)
      clear b z
      generalize V' = V at *
      refine hK.out _ _ ⟨L0, C0⟩ (fun _ => ?_)
      clear hK K
      try simp only [zA, zS, zZ, Act.put, zP, zQ, zR]
      refine Node.on 6 rfl (fun K hK => ?_)
      refine Node.wp_fn 12 [.tmp 58, .tmp 59, .tmp 63] _ [lkv (s, q, e), .int .u8 kd, .slice Ay y.length cy] (by rfl) (by rfl) (enters Tryd.func12 (by kernel_rfl) rfl) (r29Hear_v (s, q, e) kd (.slice Ay y.length cy) y V _ HR.out SY LY0.out) ?_
      rintro e' V' ⟨A3, c3, rfl, b, hp, hq⟩
      refine ⟨_, rfl, ?_⟩
      try replace n6q := fun q hb => Ne.symm (Nat.ne_of_lt (Nat.lt_of_lt_of_le (lt_of_at N6) (hq q hb)))
      replace Bb := below_step Bb b
      replace L0 := L0.later b
      replace C0 := C0.later b
      try replace N5 := N5.later b
      try replace N6 := below_at b N6 (lt_of_at N6)
      clear b hq SY
      generalize V' = V at *
      refine hK.out _ _ ⟨L0, C0⟩ (fun _ => ?_)
      clear hK K
      try simp only [zA, zS, zZ, Act.put, zP, zQ, zR]
      refine Node.tk 7 ?_ rfl ?_ ?_
      rotate_left
      · intro w hSw; (try dsimp only at hSw); go_simp; try with_reducible rfl
      simp only [zA, zS, zZ, Act.put, zP, zQ, zR]
      refine Node.tk 8 ?_ rfl ?_ ?_
      rotate_left
      · intro w hSw; (try dsimp only at hSw); go_simp; try with_reducible rfl
      simp only [zA, zS, zZ, Act.put, zP, zQ, zR]
      refine Node.tk 9 ?_ rfl ?_ ?_
      rotate_left
      · intro w hSw; (try dsimp only at hSw); go_simp; try with_reducible rfl
      simp only [zA, zS, zZ, Act.put, zP, zQ, zR]
      refine Node.tk 10 ?_ rfl ?_ ?_
      rotate_left
      · intro w hSw; (try dsimp only at hSw); go_simp; try with_reducible rfl
      simp only [zA, zS, zZ, Act.put, zP, zQ, zR]
      exact kT _ _ ⟨L0, C0⟩ ⟨u5, u6, A3, c3, ⟨rfl, rfl, by simp⟩, n56, N5, N6, hp, n6q, Bb, n5, n6⟩
  · skip
    refine new_fr rfl fun u6 V' z N6 b => ?_
    have n6 := Nat.le_trans Bb.size z
    replace Bb := below_step Bb b
    replace L0 := L0.later b
    replace C0 := C0.later b
    try replace SY := SY.later b
    have n6q : True := trivial
    try (replace n6q := fun q hb => Nat.ne_of_lt (Nat.lt_of_lt_of_le (vblock_lt hp (q := q) hb) z); replace hp := hp.later b)
    try (have n56 := Nat.ne_of_gt (Nat.lt_of_lt_of_le (lt_of_at N5.at_) z); replace N5 := N5.later b)
    clear b z
    generalize V' = V at *
    refine hK.out _ _ ⟨L0, C0⟩ (fun _ => ?_)
    clear hK K
    try simp only [zA, zS, zZ, Act.put, zP, zQ, zR]
    refine wpAnyH_ready (rs := [6, 11]) (by kernel_rfl) (by simp) ?_
    refine AllReadyH.cons rfl (fun K hK => ?_) (AllReadyH.cons rfl (fun K hK => ?_) AllReadyH.nil)
    · skip
      refine Node.wp_fn 12 [.tmp 58, .tmp 59, .tmp 63] _ [lkv (s, q, e), .int .u8 kd, .slice Ay y.length cy] (by rfl) (by rfl) (enters Tryd.func12 (by kernel_rfl) rfl) (r29Hear_v (s, q, e) kd (.slice Ay y.length cy) y V _ HR.out SY LY0.out) ?_
      rintro e' V' ⟨A3, c3, rfl, b, hp, hq⟩
      refine ⟨_, rfl, ?_⟩
      try replace n6q := fun q hb => Ne.symm (Nat.ne_of_lt (Nat.lt_of_lt_of_le (lt_of_at N6) (hq q hb)))
      replace Bb := below_step Bb b
      replace L0 := L0.later b
      replace C0 := C0.later b
      try replace N5 := N5.later b
      try replace N6 := below_at b N6 (lt_of_at N6)
      clear b hq SY
      generalize V' = V at *
      refine hK.out _ _ ⟨L0, C0⟩ (fun _ => ?_)
      clear hK K
      try simp only [zA, zS, zZ, Act.put, zP, zQ, zR]
      refine Node.tk 7 ?_ rfl ?_ ?_
      rotate_left
      · intro w hSw; (try dsimp only at hSw); go_simp; try with_reducible rfl
      simp only [zA, zS, zZ, Act.put, zP, zQ, zR]
      refine Node.tk 8 ?_ rfl ?_ ?_
      rotate_left
      · intro w hSw; (try dsimp only at hSw); go_simp; try with_reducible rfl
      simp only [zA, zS, zZ, Act.put, zP, zQ, zR]
      refine Node.tk 9 ?_ rfl ?_ ?_
      rotate_left
      · intro w hSw; (try dsimp only at hSw); go_simp; try with_reducible rfl
      simp only [zA, zS, zZ, Act.put, zP, zQ, zR]
      refine Node.tk 10 ?_ rfl ?_ ?_
      rotate_left
      · intro w hSw; (try dsimp only at hSw); go_simp; try with_reducible rfl
      simp only [zA, zS, zZ, Act.put, zP, zQ, zR]
      refine Node.on 11 rfl (fun K hK => ?_)
      refine new_lk rfl fun u5 V' z N5 b => ?_
      have n5 := Nat.le_trans Bb.size z
      replace Bb := below_step Bb b
      replace L0 := L0.later b
      replace C0 := C0.later b
      try replace SY := SY.later b
      try replace hp := hp.later b
      try (have n56 := Nat.ne_of_lt (Nat.lt_of_lt_of_le (lt_of_at N6) z); replace N6 := below_at b N6 (lt_of_at N6))
      clear b z
      generalize V' = V at *
      refine hK.out _ _ ⟨L0, C0⟩ (fun _ => ?_)
      clear hK K
      try simp only [zA, zS, zZ, Act.put, zP, zQ, zR]
      exact kT _ _ ⟨L0, C0⟩ ⟨u5, u6, A3, c3, ⟨rfl, rfl, by simp⟩, n56, N5, N6, hp, n6q, Bb, n5, n6⟩
    · skip
      refine new_lk rfl fun u5 V' z N5 b => ?_
      have n5 := Nat.le_trans Bb.size z
      replace Bb := below_step Bb b
      replace L0 := L0.later b
      replace C0 := C0.later b
      try replace SY := SY.later b
      try replace hp := hp.later b
      try (have n56 := Nat.ne_of_lt (Nat.lt_of_lt_of_le (lt_of_at N6) z); replace N6 := below_at b N6 (lt_of_at N6))
      clear b z
      generalize V' = V at *
      refine hK.out _ _ ⟨L0, C0⟩ (fun _ => ?_)
      clear hK K
      try simp only [zA, zS, zZ, Act.put, zP, zQ, zR]
      refine Node.on 6 rfl (fun K hK => ?_)
      refine Node.wp_fn 12 [.tmp 58, .tmp 59, .tmp 63] _ [lkv (s, q, e), .int .u8 kd, .slice Ay y.length cy] (by rfl) (by rfl) (enters Tryd.func12 (by kernel_rfl) rfl) (r29Hear_v (s, q, e) kd (.slice Ay y.length cy) y V _ HR.out SY LY0.out) ?_
      rintro e' V' ⟨A3, c3, rfl, b, hp, hq⟩
      refine ⟨_, rfl, ?_⟩
      try replace n6q := fun q hb => Ne.symm (Nat.ne_of_lt (Nat.lt_of_lt_of_le (lt_of_at N6) (hq q hb)))
      replace Bb := below_step Bb b
      replace L0 := L0.later b
      replace C0 := C0.later b
      try replace N5 := N5.later b
      try replace N6 := below_at b N6 (lt_of_at N6)
      clear b hq SY
      generalize V' = V at *
      refine hK.out _ _ ⟨L0, C0⟩ (fun _ => ?_)
      clear hK K
      try simp only [zA, zS, zZ, Act.put, zP, zQ, zR]
      refine Node.tk 7 ?_ rfl ?_ ?_
      rotate_left
      · intro w hSw; (try dsimp only at hSw); go_simp; try with_reducible rfl
      simp only [zA, zS, zZ, Act.put, zP, zQ, zR]
      refine Node.tk 8 ?_ rfl ?_ ?_
      rotate_left
      · intro w hSw; (try dsimp only at hSw); go_simp; try with_reducible rfl
      simp only [zA, zS, zZ, Act.put, zP, zQ, zR]
      refine Node.tk 9 ?_ rfl ?_ ?_
      rotate_left
      · intro w hSw; (try dsimp only at hSw); go_simp; try with_reducible rfl
      simp only [zA, zS, zZ, Act.put, zP, zQ, zR]
      refine Node.tk 10 ?_ rfl ?_ ?_
      rotate_left
      · intro w hSw; (try dsimp only at hSw); go_simp; try with_reducible rfl
      simp only [zA, zS, zZ, Act.put, zP, zQ, zR]
      exact kT _ _ ⟨L0, C0⟩ ⟨u5, u6, A3, c3, ⟨rfl, rfl, by simp⟩, n56, N5, N6, hp, n6q, Bb, n5, n6⟩

end Go.Proofs.YtlanlkpamnoekaaDoor
namespace Go.Proofs.YtlanlkpamnoekaaDoor
open Go Go.RowKit Rf Mem Bv Crc Str Lk
set_option maxRecDepth 100000
attribute [local go_sem ↓] run_max2 run_min2
theorem opsT10_from (k n : Nat) : ∀ j, j < ((opsT10.toList.drop k).take n).length → ((opsT10.toList.drop k).take n)[j]? = opsT10[k + j]? := by
  intro j hj
  simp only [List.length_take] at hj
  rw [List.getElem?_take, if_pos (by omega), List.getElem?_drop]
  simp
theorem opsT11_from (k n : Nat) : ∀ j, j < ((opsT11.toList.drop k).take n).length → ((opsT11.toList.drop k).take n)[j]? = opsT11[k + j]? := by
  intro j hj
  simp only [List.length_take] at hj
  rw [List.getElem?_take, if_pos (by omega), List.getElem?_drop]
  simp
theorem lt8 (q0 : Act) (Af : Option Addr) (cf n : Nat) (kd : Int) (Ay : Option Addr) (cy m : Nat) (g6 g7 g10 : Nat) (gc gd ge gf i : Nat) (er : Int) (s q e : Int) (f : Frm) (hS : Sl q0 166 [(2, .int .u8 kd), (3, .slice Af n cf), (5, .slice Ay m cy), (6, .pointer (some ⟨g6, 0, none⟩)), (7, .pointer (some ⟨g7, 0, none⟩)), (10, .pointer (some ⟨g10, 0, none⟩)), (12, .bool false), (13, .int .i64 (i : Nat)), (14, .pointer (some ⟨gc, 0, none⟩)), (15, .pointer (some ⟨gd, 0, none⟩)), (16, .int .i64 er), (17, .pointer (some ⟨ge, 0, none⟩)), (18, .pointer (some ⟨gf, 0, none⟩)), (19, .int .i64 er)]) (w : World) (hA : LVar w gc s q e) (hB : LVar w ge s q e) (hF : FV w gd f) (hG : FV w gf f) : rT8.wp Tryd.prog (nrm fun a' w' => Sl a' 166 [(2, .int .u8 kd), (3, .slice Af n cf), (5, .slice Ay m cy), (6, .pointer (some ⟨g6, 0, none⟩)), (7, .pointer (some ⟨g7, 0, none⟩)), (10, .pointer (some ⟨g10, 0, none⟩)), (12, .bool false), (13, .int .i64 (i : Nat)), (14, .pointer (some ⟨gc, 0, none⟩)), (15, .pointer (some ⟨gd, 0, none⟩)), (16, .int .i64 er), (17, .pointer (some ⟨ge, 0, none⟩)), (18, .pointer (some ⟨gf, 0, none⟩)), (19, .int .i64 er), (81, .bool false)] ∧ Below w.heap.size w w') q0 w := by
  obtain ⟨A1, c1, hb1, hp1⟩ := hF.out
  obtain ⟨A2, c2, hb2, hp2⟩ := hG.out
  have f0 : w.cell? ⟨gd, 0, none⟩ = some (.int .u8 (f.1.toNat : Int)) := cell_at hb1 0
  have f1 : w.cell? ⟨gd, 1, none⟩ = some (.int .u8 (f.2.1.toNat : Int)) := cell_at hb1 1
  have f2 : w.cell? ⟨gd, 2, none⟩ = some (.slice A1 f.2.2.length c1) := cell_at hb1 2
  have m0 : w.cell? ⟨gf, 0, none⟩ = some (.int .u8 (f.1.toNat : Int)) := cell_at hb2 0
  have m1 : w.cell? ⟨gf, 1, none⟩ = some (.int .u8 (f.2.1.toNat : Int)) := cell_at hb2 1
  have m2 : w.cell? ⟨gf, 2, none⟩ = some (.slice A2 f.2.2.length c2) := cell_at hb2 2
  have x0 := hA.c0
  have x1 := hA.c1
  have x2 := hA.c2
  have z0 := hB.c0
  have z1 := hB.c1
  have z2 := hB.c2
  clear hF hG hb1 hb2 hA hB
  obtain ⟨j, rfl, hj⟩ := hS.lit166
  have h2 : j 2 = .int .u8 kd := hj (2, _) (by simp)
  have h3 : j 3 = .slice Af n cf := hj (3, _) (by simp)
  have h5 : j 5 = .slice Ay m cy := hj (5, _) (by simp)
  have h6 : j 6 = .pointer (some ⟨g6, 0, none⟩) := hj (6, _) (by simp)
  have h7 : j 7 = .pointer (some ⟨g7, 0, none⟩) := hj (7, _) (by simp)
  have h10 : j 10 = .pointer (some ⟨g10, 0, none⟩) := hj (10, _) (by simp)
  have h12 : j 12 = .bool false := hj (12, _) (by simp)
  have h13 : j 13 = .int .i64 (i : Nat) := hj (13, _) (by simp)
  have h14 : j 14 = .pointer (some ⟨gc, 0, none⟩) := hj (14, _) (by simp)
  have h15 : j 15 = .pointer (some ⟨gd, 0, none⟩) := hj (15, _) (by simp)
  have h16 : j 16 = .int .i64 er := hj (16, _) (by simp)
  have h17 : j 17 = .pointer (some ⟨ge, 0, none⟩) := hj (17, _) (by simp)
  have h18 : j 18 = .pointer (some ⟨gf, 0, none⟩) := hj (18, _) (by simp)
  have h19 : j 19 = .int .i64 er := hj (19, _) (by simp)
  clear hj hS
  unfold rT8 cT loopT rgT bodyT
  simp only [Tryd.f3, Option.getD_some, nthSeq, cfst, csnd, cyes, copsOf, lit166, List.cons_append, List.nil_append, h2, h3, h5, h6, h7, h10, h12, h13, h14, h15, h16, h17, h18, h19]
  go_wp2_with fail
  refine (refSame_c f.1.toNat f.2.1.toNat f.1.toNat f.2.1.toNat (.slice A1 f.2.2.length c1) (.slice A2 f.2.2.length c2) f.2.2 f.2.2 w hp1 hp2).mono ?_
  rintro e' W ⟨rfl, b⟩
  rw [sameF_refl]
  clear f0 f1 f2 m0 m1 m2 x0 x1 x2 z0 z1 z2 hp1 hp2
  go_wp2
  exact ⟨⟨rfl, rfl, by simp⟩, b⟩
theorem lt10a (q0 : Act) (Af : Option Addr) (cf n : Nat) (kd : Int) (Ay : Option Addr) (cy m : Nat) (g6 g7 g10 : Nat) (s q e : Int) (hS : Sl q0 166 [(2, .int .u8 kd), (3, .slice Af n cf), (5, .slice Ay m cy), (6, .pointer (some ⟨g6, 0, none⟩)), (7, .pointer (some ⟨g7, 0, none⟩)), (10, .pointer (some ⟨g10, 0, none⟩)), (12, .bool false)]) (w : World) (hL : LVar w g7 s q e) : wpOps Tryd.prog opsT10 (nrm fun a' w' => Sl a' 166 [(2, .int .u8 kd), (3, .slice Af n cf), (5, .slice Ay m cy), (6, .pointer (some ⟨g6, 0, none⟩)), (7, .pointer (some ⟨g7, 0, none⟩)), (10, .pointer (some ⟨g10, 0, none⟩)), (12, .bool false), (83, lk s q e), (84, .int .u8 kd), (85, .slice Af n cf)] ∧ w' = w) [0, 1, 2] q0 w := by
  have h4 := fun Q => wpOps_some (P := Tryd.prog) (Q := Q) ((opsT10.toList.drop 0).take 3) 0 (opsT10_from 0 3)
  have h5 : ((opsT10.toList.drop 0).take 3).length = 3 := by kernel_rfl
  rw [h5] at h4
  show wpOps _ _ _ (List.range' 0 3) _ _
  rw [h4]
  clear h4 h5
  have x0 := hL.c0
  have x1 := hL.c1
  have x2 := hL.c2
  obtain ⟨j, rfl, hj⟩ := hS.lit166
  have h2 : j 2 = .int .u8 kd := hj (2, _) (by simp)
  have h3 : j 3 = .slice Af n cf := hj (3, _) (by simp)
  have h5 : j 5 = .slice Ay m cy := hj (5, _) (by simp)
  have h6 : j 6 = .pointer (some ⟨g6, 0, none⟩) := hj (6, _) (by simp)
  have h7 : j 7 = .pointer (some ⟨g7, 0, none⟩) := hj (7, _) (by simp)
  have h10 : j 10 = .pointer (some ⟨g10, 0, none⟩) := hj (10, _) (by simp)
  have h12 : j 12 = .bool false := hj (12, _) (by simp)
  clear hj hS
  unfold opsT10 rgT bodyT
  simp only [Tryd.f3, Option.getD_some, nthSeq, cfst, csnd, cyes, copsOf, lit166, List.cons_append, List.nil_append, h2, h3, h5, h6, h7, h10, h12]
  simp only [List.drop_zero, List.take_succ_cons, List.take_zero]
  go_wp2
  exact ⟨⟨rfl, rfl, by simp⟩, rfl⟩
theorem lt10b (q0 : Act) (Af : Option Addr) (cf n : Nat) (kd : Int) (Ay : Option Addr) (cy m : Nat) (g6 g7 g10 : Nat) (Ar : Option Addr) (cr mr : Nat) (s q e : Int) (hS : Sl q0 166 [(2, .int .u8 kd), (3, .slice Af n cf), (5, .slice Ay m cy), (6, .pointer (some ⟨g6, 0, none⟩)), (7, .pointer (some ⟨g7, 0, none⟩)), (10, .pointer (some ⟨g10, 0, none⟩)), (12, .bool false), (86, .tuple #[lk s q e, .slice Ar mr cr])]) (w : World) : wpOps Tryd.prog opsT10 (nrm fun a' w' => ∃ g20, Sl a' 166 [(2, .int .u8 kd), (3, .slice Af n cf), (5, .slice Ay m cy), (6, .pointer (some ⟨g6, 0, none⟩)), (7, .pointer (some ⟨g7, 0, none⟩)), (10, .pointer (some ⟨g10, 0, none⟩)), (12, .bool false), (20, .pointer (some ⟨g20, 0, none⟩)), (21, .slice Ar mr cr)] ∧ LVar w' g20 s q e ∧ Below w.heap.size w w') [4, 5, 6, 7, 8, 9] q0 w := by
  have h4 := fun Q => wpOps_some (P := Tryd.prog) (Q := Q) ((opsT10.toList.drop 4).take 6) 4 (opsT10_from 4 6)
  have h5 : ((opsT10.toList.drop 4).take 6).length = 6 := by kernel_rfl
  rw [h5] at h4
  show wpOps _ _ _ (List.range' 4 6) _ _
  rw [h4]
  clear h4 h5
  obtain ⟨j, rfl, hj⟩ := hS.lit166
  have h2 : j 2 = .int .u8 kd := hj (2, _) (by simp)
  have h3 : j 3 = .slice Af n cf := hj (3, _) (by simp)
  have h5 : j 5 = .slice Ay m cy := hj (5, _) (by simp)
  have h6 : j 6 = .pointer (some ⟨g6, 0, none⟩) := hj (6, _) (by simp)
  have h7 : j 7 = .pointer (some ⟨g7, 0, none⟩) := hj (7, _) (by simp)
  have h10 : j 10 = .pointer (some ⟨g10, 0, none⟩) := hj (10, _) (by simp)
  have h12 : j 12 = .bool false := hj (12, _) (by simp)
  have h86 : j 86 = .tuple #[lk s q e, .slice Ar mr cr] := hj (86, _) (by simp)
  clear hj hS
  unfold opsT10 rgT bodyT
  simp only [Tryd.f3, Option.getD_some, nthSeq, cfst, csnd, cyes, copsOf, lit166, List.cons_append, List.nil_append, h2, h3, h5, h6, h7, h10, h12, h86]
  simp only [List.drop_succ_cons, List.drop_zero, List.take_succ_cons, List.take_zero]
  have b1 := below_new w (.cells #[.int .i64 s, .int .i64 q, .int .i64 e] 31)
  have V1 := LVar.new w s q e
  go_wp2
  exact ⟨_, ⟨rfl, rfl, by simp⟩, V1, b1⟩
theorem lt11a (q0 : Act) (Af : Option Addr) (cf n : Nat) (kd : Int) (Ay : Option Addr) (cy m : Nat) (g6 g7 g10 : Nat) (Ar : Option Addr) (cr mr g20 : Nat) (s q e : Int) (hS : Sl q0 166 [(2, .int .u8 kd), (3, .slice Af n cf), (5, .slice Ay m cy), (6, .pointer (some ⟨g6, 0, none⟩)), (7, .pointer (some ⟨g7, 0, none⟩)), (10, .pointer (some ⟨g10, 0, none⟩)), (12, .bool false), (20, .pointer (some ⟨g20, 0, none⟩)), (21, .slice Ar mr cr)]) (w : World) (hL : LVar w g7 s q e) : wpOps Tryd.prog opsT11 (nrm fun a' w' => Sl a' 166 [(2, .int .u8 kd), (3, .slice Af n cf), (5, .slice Ay m cy), (6, .pointer (some ⟨g6, 0, none⟩)), (7, .pointer (some ⟨g7, 0, none⟩)), (10, .pointer (some ⟨g10, 0, none⟩)), (12, .bool false), (20, .pointer (some ⟨g20, 0, none⟩)), (21, .slice Ar mr cr), (90, lk s q e), (91, .int .u8 kd), (92, .slice Af n cf)] ∧ w' = w) [0, 1, 2] q0 w := by
  have h4 := fun Q => wpOps_some (P := Tryd.prog) (Q := Q) ((opsT11.toList.drop 0).take 3) 0 (opsT11_from 0 3)
  have h5 : ((opsT11.toList.drop 0).take 3).length = 3 := by kernel_rfl
  rw [h5] at h4
  show wpOps _ _ _ (List.range' 0 3) _ _
  rw [h4]
  clear h4 h5
  have x0 := hL.c0
  have x1 := hL.c1
  have x2 := hL.c2
  obtain ⟨j, rfl, hj⟩ := hS.lit166
  have h2 : j 2 = .int .u8 kd := hj (2, _) (by simp)
  have h3 : j 3 = .slice Af n cf := hj (3, _) (by simp)
  have h5 : j 5 = .slice Ay m cy := hj (5, _) (by simp)
  have h6 : j 6 = .pointer (some ⟨g6, 0, none⟩) := hj (6, _) (by simp)
  have h7 : j 7 = .pointer (some ⟨g7, 0, none⟩) := hj (7, _) (by simp)
  have h10 : j 10 = .pointer (some ⟨g10, 0, none⟩) := hj (10, _) (by simp)
  have h12 : j 12 = .bool false := hj (12, _) (by simp)
  have h20 : j 20 = .pointer (some ⟨g20, 0, none⟩) := hj (20, _) (by simp)
  have h21 : j 21 = .slice Ar mr cr := hj (21, _) (by simp)
  clear hj hS
  unfold opsT11 rgT bodyT
  simp only [Tryd.f3, Option.getD_some, nthSeq, cfst, csnd, cyes, copsOf, lit166, List.cons_append, List.nil_append, h2, h3, h5, h6, h7, h10, h12, h20, h21]
  simp only [List.drop_zero, List.take_succ_cons, List.take_zero]
  go_wp2
  exact ⟨⟨rfl, rfl, by simp⟩, rfl⟩
theorem lt11b (q0 : Act) (Af : Option Addr) (cf n : Nat) (kd : Int) (Ay : Option Addr) (cy m : Nat) (g6 g7 g10 : Nat) (Ar : Option Addr) (cr mr g20 : Nat) (As : Option Addr) (cs : Nat) (s q e : Int) (hS : Sl q0 166 [(2, .int .u8 kd), (3, .slice Af n cf), (5, .slice Ay m cy), (6, .pointer (some ⟨g6, 0, none⟩)), (7, .pointer (some ⟨g7, 0, none⟩)), (10, .pointer (some ⟨g10, 0, none⟩)), (12, .bool false), (20, .pointer (some ⟨g20, 0, none⟩)), (21, .slice Ar mr cr), (93, .tuple #[lk s q e, .slice As mr cs])]) (w : World) : wpOps Tryd.prog opsT11 (nrm fun a' w' => ∃ g22, Sl a' 166 [(2, .int .u8 kd), (3, .slice Af n cf), (5, .slice Ay m cy), (6, .pointer (some ⟨g6, 0, none⟩)), (7, .pointer (some ⟨g7, 0, none⟩)), (10, .pointer (some ⟨g10, 0, none⟩)), (12, .bool false), (20, .pointer (some ⟨g20, 0, none⟩)), (21, .slice Ar mr cr), (22, .pointer (some ⟨g22, 0, none⟩)), (23, .slice As mr cs)] ∧ LVar w' g22 s q e ∧ Below w.heap.size w w') [4, 5, 6, 7, 8, 9] q0 w := by
  have h4 := fun Q => wpOps_some (P := Tryd.prog) (Q := Q) ((opsT11.toList.drop 4).take 6) 4 (opsT11_from 4 6)
  have h5 : ((opsT11.toList.drop 4).take 6).length = 6 := by kernel_rfl
  rw [h5] at h4
  show wpOps _ _ _ (List.range' 4 6) _ _
  rw [h4]
  clear h4 h5
  obtain ⟨j, rfl, hj⟩ := hS.lit166
  have h2 : j 2 = .int .u8 kd := hj (2, _) (by simp)
  have h3 : j 3 = .slice Af n cf := hj (3, _) (by simp)
  have h5 : j 5 = .slice Ay m cy := hj (5, _) (by simp)
  have h6 : j 6 = .pointer (some ⟨g6, 0, none⟩) := hj (6, _) (by simp)
  have h7 : j 7 = .pointer (some ⟨g7, 0, none⟩) := hj (7, _) (by simp)
  have h10 : j 10 = .pointer (some ⟨g10, 0, none⟩) := hj (10, _) (by simp)
  have h12 : j 12 = .bool false := hj (12, _) (by simp)
  have h20 : j 20 = .pointer (some ⟨g20, 0, none⟩) := hj (20, _) (by simp)
  have h21 : j 21 = .slice Ar mr cr := hj (21, _) (by simp)
  have h93 : j 93 = .tuple #[lk s q e, .slice As mr cs] := hj (93, _) (by simp)
  clear hj hS
  unfold opsT11 rgT bodyT
  simp only [Tryd.f3, Option.getD_some, nthSeq, cfst, csnd, cyes, copsOf, lit166, List.cons_append, List.nil_append, h2, h3, h5, h6, h7, h10, h12, h20, h21, h93]
  simp only [List.drop_succ_cons, List.drop_zero, List.take_succ_cons, List.take_zero]
  have b1 := below_new w (.cells #[.int .i64 s, .int .i64 q, .int .i64 e] 31)
  have V1 := LVar.new w s q e
  go_wp2
  exact ⟨_, ⟨rfl, rfl, by simp⟩, V1, b1⟩
theorem lt12 (q0 : Act) (Af : Option Addr) (cf n : Nat) (kd : Int) (Ay : Option Addr) (cy m : Nat) (g6 g7 g10 : Nat) (Ar : Option Addr) (cr mr g20 : Nat) (As : Option Addr) (cs g22 : Nat) (a b c d : U32) (Y : List (BitVec 8)) (hy : Y.length = m) (hm : m ≤ 200) (er : Int) (hr : takeInV Y = (a, b, c, d, er)) (hS : Sl q0 166 [(2, .int .u8 kd), (3, .slice Af n cf), (5, .slice Ay m cy), (6, .pointer (some ⟨g6, 0, none⟩)), (7, .pointer (some ⟨g7, 0, none⟩)), (10, .pointer (some ⟨g10, 0, none⟩)), (12, .bool false), (20, .pointer (some ⟨g20, 0, none⟩)), (21, .slice Ar mr cr), (22, .pointer (some ⟨g22, 0, none⟩)), (23, .slice As mr cs)]) (w : World) (hs : SliceAt w 1 (.slice Ay m cy) m (u8s Y)) : (rgT 5).wp Tryd.prog (nrm fun a' w' => ∃ g24, Sl a' 166 [(2, .int .u8 kd), (3, .slice Af n cf), (5, .slice Ay m cy), (6, .pointer (some ⟨g6, 0, none⟩)), (7, .pointer (some ⟨g7, 0, none⟩)), (10, .pointer (some ⟨g10, 0, none⟩)), (12, .bool false), (20, .pointer (some ⟨g20, 0, none⟩)), (21, .slice Ar mr cr), (22, .pointer (some ⟨g22, 0, none⟩)), (23, .slice As mr cs), (24, .pointer (some ⟨g24, 0, none⟩)), (25, .int .i64 er)] ∧ IVar w' g24 a b c d ∧ Below w.heap.size w w') q0 w := by
  subst hy
  obtain ⟨j, rfl, hj⟩ := hS.lit166
  have h2 : j 2 = .int .u8 kd := hj (2, _) (by simp)
  have h3 : j 3 = .slice Af n cf := hj (3, _) (by simp)
  have h5 : j 5 = .slice Ay Y.length cy := hj (5, _) (by simp)
  have h6 : j 6 = .pointer (some ⟨g6, 0, none⟩) := hj (6, _) (by simp)
  have h7 : j 7 = .pointer (some ⟨g7, 0, none⟩) := hj (7, _) (by simp)
  have h10 : j 10 = .pointer (some ⟨g10, 0, none⟩) := hj (10, _) (by simp)
  have h12 : j 12 = .bool false := hj (12, _) (by simp)
  have h20 : j 20 = .pointer (some ⟨g20, 0, none⟩) := hj (20, _) (by simp)
  have h21 : j 21 = .slice Ar mr cr := hj (21, _) (by simp)
  have h22 : j 22 = .pointer (some ⟨g22, 0, none⟩) := hj (22, _) (by simp)
  have h23 : j 23 = .slice As mr cs := hj (23, _) (by simp)
  clear hj hS
  unfold rgT bodyT
  simp only [Tryd.f3, Option.getD_some, nthSeq, cfst, csnd, cyes, copsOf, lit166, List.cons_append, List.nil_append, h2, h3, h5, h6, h7, h10, h12, h20, h21, h22, h23]
  go_wp2_with fail
  refine (TakeIn_c (.slice Ay Y.length cy) Y a b c d er w hr hs (by omega)).mono ?_
  rintro e W ⟨rfl, b'⟩
  have b1 := below_new W (.cells (inc a b c d) 35)
  have V : IVar (W.alloc (.cells (inc a b c d) 35)) W.heap.size a b c d := ⟨new_at rfl _⟩
  have B := below_step b' b1
  clear hr hs b' b1
  go_wp2
  exact ⟨_, ⟨rfl, rfl, by simp⟩, V, B⟩
theorem lt13 (q0 : Act) (Af : Option Addr) (cf n : Nat) (kd : Int) (Ay : Option Addr) (cy m : Nat) (g6 g7 g10 : Nat) (Ar : Option Addr) (cr mr g20 : Nat) (As : Option Addr) (cs g22 : Nat) (g24 : Nat) (a b c d : U32) (Y : List (BitVec 8)) (hy : Y.length = m) (hm : m ≤ 200) (er : Int) (hr : takeInV Y = (a, b, c, d, er)) (hS : Sl q0 166 [(2, .int .u8 kd), (3, .slice Af n cf), (5, .slice Ay m cy), (6, .pointer (some ⟨g6, 0, none⟩)), (7, .pointer (some ⟨g7, 0, none⟩)), (10, .pointer (some ⟨g10, 0, none⟩)), (12, .bool false), (20, .pointer (some ⟨g20, 0, none⟩)), (21, .slice Ar mr cr), (22, .pointer (some ⟨g22, 0, none⟩)), (23, .slice As mr cs), (24, .pointer (some ⟨g24, 0, none⟩)), (25, .int .i64 er)]) (w : World) (hs : SliceAt w 1 (.slice Ay m cy) m (u8s Y)) : (rgT 6).wp Tryd.prog (nrm fun a' w' => ∃ g26, Sl a' 166 [(2, .int .u8 kd), (3, .slice Af n cf), (5, .slice Ay m cy), (6, .pointer (some ⟨g6, 0, none⟩)), (7, .pointer (some ⟨g7, 0, none⟩)), (10, .pointer (some ⟨g10, 0, none⟩)), (12, .bool false), (20, .pointer (some ⟨g20, 0, none⟩)), (21, .slice Ar mr cr), (22, .pointer (some ⟨g22, 0, none⟩)), (23, .slice As mr cs), (24, .pointer (some ⟨g24, 0, none⟩)), (25, .int .i64 er), (26, .pointer (some ⟨g26, 0, none⟩)), (27, .int .i64 er)] ∧ IVar w' g26 a b c d ∧ Below w.heap.size w w') q0 w := by
  subst hy
  obtain ⟨j, rfl, hj⟩ := hS.lit166
  have h2 : j 2 = .int .u8 kd := hj (2, _) (by simp)
  have h3 : j 3 = .slice Af n cf := hj (3, _) (by simp)
  have h5 : j 5 = .slice Ay Y.length cy := hj (5, _) (by simp)
  have h6 : j 6 = .pointer (some ⟨g6, 0, none⟩) := hj (6, _) (by simp)
  have h7 : j 7 = .pointer (some ⟨g7, 0, none⟩) := hj (7, _) (by simp)
  have h10 : j 10 = .pointer (some ⟨g10, 0, none⟩) := hj (10, _) (by simp)
  have h12 : j 12 = .bool false := hj (12, _) (by simp)
  have h20 : j 20 = .pointer (some ⟨g20, 0, none⟩) := hj (20, _) (by simp)
  have h21 : j 21 = .slice Ar mr cr := hj (21, _) (by simp)
  have h22 : j 22 = .pointer (some ⟨g22, 0, none⟩) := hj (22, _) (by simp)
  have h23 : j 23 = .slice As mr cs := hj (23, _) (by simp)
  have h24 : j 24 = .pointer (some ⟨g24, 0, none⟩) := hj (24, _) (by simp)
  have h25 : j 25 = .int .i64 er := hj (25, _) (by simp)
  clear hj hS
  unfold rgT bodyT
  simp only [Tryd.f3, Option.getD_some, nthSeq, cfst, csnd, cyes, copsOf, lit166, List.cons_append, List.nil_append, h2, h3, h5, h6, h7, h10, h12, h20, h21, h22, h23, h24, h25]
  go_wp2_with fail
  refine (r29TakeIn_c (.slice Ay Y.length cy) Y a b c d er w hr hs (by omega)).mono ?_
  rintro e W ⟨rfl, b'⟩
  have b1 := below_new W (.cells (inc a b c d) 35)
  have V : IVar (W.alloc (.cells (inc a b c d) 35)) W.heap.size a b c d := ⟨new_at rfl _⟩
  have B := below_step b' b1
  clear hr hs b' b1
  go_wp2
  exact ⟨_, ⟨rfl, rfl, by simp⟩, V, B⟩

end Go.Proofs.YtlanlkpamnoekaaDoor
namespace Go.Proofs.YtlanlkpamnoekaaDoor
open List renaming getElem_toArray → zA, getElem_cons_succ → zS, getElem_cons_zero → zZ, setIfInBounds_toArray → zP, set_cons_zero → zQ, set_cons_succ → zR
open Go Go.RowKit Rf Mem Bv Crc Str Lk
set_option maxRecDepth 100000
attribute [local go_sem ↓] run_max2 run_min2
def lit27 (j : Nat → Value) : List Value := [j 0, j 1, j 2, j 3, j 4, j 5, j 6, j 7, j 8, j 9, j 10, j 11, j 12, j 13, j 14, j 15, j 16, j 17, j 18, j 19, j 20, j 21, j 22, j 23, j 24, j 25, j 26]
theorem lit27_eq (j : Nat → Value) : (List.range 27).map j = lit27 j := by kernel_rfl
theorem Sl.lit27 {a : Act} {l : List (Nat × Value)} (h : Sl a 27 l) : ∃ j : Nat → Value, a = ⟨(lit27 j).toArray, []⟩ ∧ ∀ p ∈ l, j p.1 = p.2 := by
  obtain ⟨j, h1, h2⟩ := h.letters
  exact ⟨j, by rw [h1, lit27_eq], h2⟩

noncomputable def bodyQ : Code := Tryd.f18.body.getD .skip
noncomputable def rgQ (k : Nat) : Code := nthSeq k bodyQ

noncomputable def rQ1 : Code := cfst (rgQ 1)
noncomputable def rQ2 : Code := cyes (csnd (rgQ 1))
noncomputable def rQ3 : Code := cfst (rgQ 2)
noncomputable def loopQ : Code := match rgQ 2 with | .seq _ (.block _ (.loop c)) => c | _ => .skip
noncomputable def rQ4 : Code := cfst (cfst loopQ)
noncomputable def cQ : Code := match loopQ with | .seq _ (.seq (.block _ c) _) => c | _ => .skip
noncomputable def rQ5 : Code := csnd (csnd loopQ)
noncomputable def rQ6 : Code := cfst cQ
noncomputable def rQ7 : Code := cyes (csnd cQ)
theorem bodyQ_eq : bodyQ = .seq (rgQ 0) (.seq (rgQ 1) (.seq (rgQ 2) (.seq (rgQ 3) .ret))) := rfl
theorem rgQ1_eq : rgQ 1 = .seq rQ1 (.cond (.tmp 10) rQ2 .skip) := rfl
theorem rgQ2_eq : rgQ 2 = .seq rQ3 (.block 0 (.loop loopQ)) := rfl
theorem loopQ_eq : loopQ = .seq (.seq rQ4 (.cond (.tmp 14) .skip (.exit 0))) (.seq (.block 1 cQ) rQ5) := rfl
theorem cQ_eq : cQ = .seq rQ6 (.cond (.tmp 26) rQ7 .skip) := rfl
theorem lq0 (a : Act) (A1 A2 : Option Addr) (c1 c2 m : Nat) (hS : Sl a 27 [(0, .slice A1 m c1), (1, .slice A2 m c2)]) (w : World) : (rgQ 0).wp Tryd.prog (nrm fun a' w' => Sl a' 27 [(0, .slice A1 m c1), (1, .slice A2 m c2), (4, .bool false)] ∧ w' = w) a w := by
  obtain ⟨j, rfl, hj⟩ := hS.lit27
  have h0 : j 0 = .slice A1 m c1 := hj (0, _) (by simp)
  have h1 : j 1 = .slice A2 m c2 := hj (1, _) (by simp)
  clear hj hS
  unfold rgQ bodyQ
  simp only [Tryd.f18, Option.getD_some, nthSeq, cfst, csnd, cyes, copsOf, lit27, List.cons_append, List.nil_append, h0, h1]
  go_wp2
  exact ⟨⟨rfl, rfl, by simp⟩, rfl⟩
theorem lq1 (a : Act) (A1 A2 : Option Addr) (c1 c2 m : Nat) (hS : Sl a 27 [(0, .slice A1 m c1), (1, .slice A2 m c2), (4, .bool false)]) (w : World) : rQ1.wp Tryd.prog (nrm fun a' w' => Sl a' 27 [(0, .slice A1 m c1), (1, .slice A2 m c2), (4, .bool false), (10, .bool false)] ∧ w' = w) a w := by
  obtain ⟨j, rfl, hj⟩ := hS.lit27
  have h0 : j 0 = .slice A1 m c1 := hj (0, _) (by simp)
  have h1 : j 1 = .slice A2 m c2 := hj (1, _) (by simp)
  have h4 : j 4 = .bool false := hj (4, _) (by simp)
  clear hj hS
  unfold rQ1 rgQ bodyQ
  simp only [Tryd.f18, Option.getD_some, nthSeq, cfst, csnd, cyes, copsOf, lit27, List.cons_append, List.nil_append, h0, h1, h4]
  go_wp2
  exact ⟨⟨rfl, rfl, by simp⟩, rfl⟩
theorem lq3 (a : Act) (A1 A2 : Option Addr) (c1 c2 m : Nat) (hS : Sl a 27 [(0, .slice A1 m c1), (1, .slice A2 m c2), (4, .bool false)]) (w : World) : rQ3.wp Tryd.prog (nrm fun a' w' => Sl a' 27 [(0, .slice A1 m c1), (1, .slice A2 m c2), (4, .bool false), (5, .int .i64 0)] ∧ w' = w) a w := by
  obtain ⟨j, rfl, hj⟩ := hS.lit27
  have h0 : j 0 = .slice A1 m c1 := hj (0, _) (by simp)
  have h1 : j 1 = .slice A2 m c2 := hj (1, _) (by simp)
  have h4 : j 4 = .bool false := hj (4, _) (by simp)
  clear hj hS
  unfold rQ3 rgQ bodyQ
  simp only [Tryd.f18, Option.getD_some, nthSeq, cfst, csnd, cyes, copsOf, lit27, List.cons_append, List.nil_append, h0, h1, h4]
  go_wp2
  exact ⟨⟨rfl, rfl, by simp⟩, rfl⟩
theorem lq4 (a : Act) (A1 A2 : Option Addr) (c1 c2 m : Nat) (i : Nat) (t : Bool) (ht : t = decide ((i : Int) < m)) (hS : Sl a 27 [(0, .slice A1 m c1), (1, .slice A2 m c2), (4, .bool false), (5, .int .i64 (i : Nat))]) (w : World) : rQ4.wp Tryd.prog (nrm fun a' w' => Sl a' 27 [(0, .slice A1 m c1), (1, .slice A2 m c2), (4, .bool false), (5, .int .i64 (i : Nat)), (14, .bool t)] ∧ w' = w) a w := by
  obtain ⟨j, rfl, hj⟩ := hS.lit27
  have h0 : j 0 = .slice A1 m c1 := hj (0, _) (by simp)
  have h1 : j 1 = .slice A2 m c2 := hj (1, _) (by simp)
  have h4 : j 4 = .bool false := hj (4, _) (by simp)
  have h5 : j 5 = .int .i64 (i : Nat) := hj (5, _) (by simp)
  clear hj hS
  unfold rQ4 loopQ rgQ bodyQ
  simp only [Tryd.f18, Option.getD_some, nthSeq, cfst, csnd, cyes, copsOf, lit27, List.cons_append, List.nil_append, h0, h1, h4, h5]
  subst ht
  go_wp2
  exact ⟨⟨rfl, rfl, by simp⟩, rfl⟩
theorem lq5 (a : Act) (A1 A2 : Option Addr) (c1 c2 m : Nat) (i : Nat) (hi : i < 1000) (hS : Sl a 27 [(0, .slice A1 m c1), (1, .slice A2 m c2), (4, .bool false), (5, .int .i64 (i : Nat))]) (w : World) : rQ5.wp Tryd.prog (nrm fun a' w' => Sl a' 27 [(0, .slice A1 m c1), (1, .slice A2 m c2), (4, .bool false), (5, .int .i64 ((i + 1) : Nat))] ∧ w' = w) a w := by
  obtain ⟨j, rfl, hj⟩ := hS.lit27
  have h0 : j 0 = .slice A1 m c1 := hj (0, _) (by simp)
  have h1 : j 1 = .slice A2 m c2 := hj (1, _) (by simp)
  have h4 : j 4 = .bool false := hj (4, _) (by simp)
  have h5 : j 5 = .int .i64 (i : Nat) := hj (5, _) (by simp)
  clear hj hS
  unfold rQ5 loopQ rgQ bodyQ
  simp only [Tryd.f18, Option.getD_some, nthSeq, cfst, csnd, cyes, copsOf, lit27, List.cons_append, List.nil_append, h0, h1, h4, h5]
  go_wp2
  exact ⟨⟨rfl, rfl, by simp [IntWalk.i64_in _ (show -9223372036854775808 ≤ (i : Int) + 1 ∧ (i : Int) + 1 ≤ 9223372036854775807 by omega)]⟩, rfl⟩
theorem lq8 (a : Act) (A1 A2 : Option Addr) (c1 c2 m : Nat) (i : Nat) (hS : Sl a 27 [(0, .slice A1 m c1), (1, .slice A2 m c2), (4, .bool false), (5, .int .i64 (i : Nat))]) (w : World) : (rgQ 3).wp Tryd.prog (nrm fun a' w' => Sl a' 27 [(4, .bool true)] ∧ w' = w) a w := by
  obtain ⟨j, rfl, hj⟩ := hS.lit27
  have h0 : j 0 = .slice A1 m c1 := hj (0, _) (by simp)
  have h1 : j 1 = .slice A2 m c2 := hj (1, _) (by simp)
  have h4 : j 4 = .bool false := hj (4, _) (by simp)
  have h5 : j 5 = .int .i64 (i : Nat) := hj (5, _) (by simp)
  clear hj hS
  unfold rgQ bodyQ
  simp only [Tryd.f18, Option.getD_some, nthSeq, cfst, csnd, cyes, copsOf, lit27, List.cons_append, List.nil_append, h0, h1, h4, h5]
  go_wp2
  exact ⟨⟨rfl, rfl, by simp⟩, rfl⟩
set_option maxHeartbeats 4000000 in
theorem lq6 (a : Act) (b1 o1 b2 o2 c1 c2 m i : Nat) (f : Frm) (fl : List Frm) (xs ys : List Value) (hi : i < m) (hfl : fl[i]? = some f) (hS : Sl a 27 [(0, .slice (some ⟨b1, o1, none⟩) m c1), (1, .slice (some ⟨b2, o2, none⟩) m c2), (4, .bool false), (5, .int .i64 (i : Nat))]) (w : World) (hs1 : SliceAt w 3 (.slice (some ⟨b1, o1, none⟩) m c1) m xs) (hs2 : SliceAt w 3 (.slice (some ⟨b2, o2, none⟩) m c2) m ys) (hc1 : FCells (fun _ => True) w fl xs) (hc2 : FCells (fun _ => True) w fl ys) : rQ6.wp Tryd.prog (nrm fun a' w' => Sl a' 27 [(0, .slice (some ⟨b1, o1, none⟩) m c1), (1, .slice (some ⟨b2, o2, none⟩) m c2), (4, .bool false), (5, .int .i64 (i : Nat)), (26, .bool false)] ∧ Below w.heap.size w w') a w := by
  obtain ⟨k0, k1, A1, d1, k2, hp1⟩ := hc1.get i f hfl
  obtain ⟨l0, l1, A2, d2, l2, hp2⟩ := hc2.get i f hfl
  obtain ⟨b', o', cx, e1, _, _, hlt1, hcell1⟩ := hs1.pos (by omega)
  obtain ⟨e2, _, _⟩ := Value.slice.inj e1
  cases e2
  obtain ⟨b', o', cy, e3, _, _, hlt2, hcell2⟩ := hs2.pos (by omega)
  obtain ⟨e4, _, _⟩ := Value.slice.inj e3
  cases e4
  have u0 := hcell1 _ _ k0
  have u1 := hcell1 _ _ k1
  have u2 := hcell1 _ _ k2
  have z0 := hcell2 _ _ l0
  have z1 := hcell2 _ _ l1
  have z2 := hcell2 _ _ l2
  clear hcell1 hcell2 e1 e3 hs1 hs2 hc1 hc2 hfl k0 k1 k2 l0 l1 l2
  have i1 : (0 : Int) ≤ (i : Int) ∧ (i : Int) < (m : Int) := by omega
  obtain ⟨j, rfl, hj⟩ := hS.lit27
  have h0 : j 0 = .slice (some ⟨b1, o1, none⟩) m c1 := hj (0, _) (by simp)
  have h1 : j 1 = .slice (some ⟨b2, o2, none⟩) m c2 := hj (1, _) (by simp)
  have h4 : j 4 = .bool false := hj (4, _) (by simp)
  have h5 : j 5 = .int .i64 (i : Nat) := hj (5, _) (by simp)
  clear hj hS
  unfold rQ6 cQ loopQ rgQ bodyQ
  simp only [Tryd.f18, Option.getD_some, nthSeq, cfst, csnd, cyes, copsOf, lit27, List.cons_append, List.nil_append, h0, h1, h4, h5]
  refine wp_region_held_drew (S := (fun w' => Below w.heap.size w w')) (by kernel_rfl) ?_ (fun hHeld => ?_)
  · exact (Below.refl _ w).drew
  have Bb : Below w.heap.size w w.drew := (Below.refl _ w).drew
  clear hHeld
  generalize w.drew = V at *
  have hHeld : Below w.heap.size w V := Bb
  refine Node.tk 0 ?_ rfl ?_ ?_
  rotate_left
  · intro w hSw; (try dsimp only at hSw); go_simp; try with_reducible rfl
  simp only [zA, zS, zZ, Act.put, zP, zQ, zR]
  refine Node.tk 1 ?_ rfl ?_ ?_
  rotate_left
  · intro w hSw; (try dsimp only at hSw); go_simp; try with_reducible rfl
  simp only [zA, zS, zZ, Act.put, zP, zQ, zR]
  refine Node.tk 2 ?_ rfl ?_ ?_
  rotate_left
  · intro w hSw; (try dsimp only at hSw); go_simp; try with_reducible rfl
  simp only [zA, zS, zZ, Act.put, zP, zQ, zR]
  refine Node.tk 3 (.agg #[.int .u8 (f.1.toNat : Int), .int .u8 (f.2.1.toNat : Int), .slice A1 f.2.2.length d1]) rfl (fun w' hSw => run_fr (below_cell' hSw hlt1 u0) (below_cell' hSw hlt1 u1) (below_cell' hSw hlt1 u2) rfl rfl) ?_
  simp only [zA, zS, zZ, Act.put, zP, zQ, zR]
  refine Node.tk 4 ?_ rfl ?_ ?_
  rotate_left
  · intro w hSw; (try dsimp only at hSw); go_simp; try with_reducible rfl
  simp only [zA, zS, zZ, Act.put, zP, zQ, zR]
  refine Node.tk 5 ?_ rfl ?_ ?_
  rotate_left
  · intro w hSw; (try dsimp only at hSw); go_simp; try with_reducible rfl
  simp only [zA, zS, zZ, Act.put, zP, zQ, zR]
  refine Node.tk 6 ?_ rfl ?_ ?_
  rotate_left
  · intro w hSw; (try dsimp only at hSw); go_simp; try with_reducible rfl
  simp only [zA, zS, zZ, Act.put, zP, zQ, zR]
  refine Node.tk 7 (.agg #[.int .u8 (f.1.toNat : Int), .int .u8 (f.2.1.toNat : Int), .slice A2 f.2.2.length d2]) rfl (fun w' hSw => run_fr (below_cell' hSw hlt2 z0) (below_cell' hSw hlt2 z1) (below_cell' hSw hlt2 z2) rfl rfl) ?_
  simp only [zA, zS, zZ, Act.put, zP, zQ, zR]
  refine Node.on 8 rfl (fun K hK => ?_)
  refine Node.wp_fn 13 [.tmp 20, .tmp 24] _ [fval f (.slice A1 f.2.2.length d1), fval f (.slice A2 f.2.2.length d2)] (by rfl) (by rfl) (enters Tryd.func13 (by kernel_rfl) rfl) (refSame_c f.1.toNat f.2.1.toNat f.1.toNat f.2.1.toNat (.slice A1 f.2.2.length d1) (.slice A2 f.2.2.length d2) f.2.2 f.2.2 V (hp1.later Bb) (hp2.later Bb)) ?_
  rintro e V' ⟨rfl, b⟩
  refine ⟨_, rfl, ?_⟩
  replace Bb := below_step Bb b
  clear b
  rw [sameF_refl]
  generalize V' = V at *
  refine hK.out _ _ Bb (fun hHeld => ?_)
  clear hK K
  try simp only [zA, zS, zZ, Act.put, zP, zQ, zR]
  refine Node.tk 9 ?_ rfl ?_ ?_
  rotate_left
  · intro w hSw; (try dsimp only at hSw); go_simp; try with_reducible rfl
  simp only [zA, zS, zZ, Act.put, zP, zQ, zR]
  refine wpAnyH_done (by kernel_rfl) ?_ _
  exact ⟨⟨rfl, rfl, by simp⟩, Bb⟩
/-- The same frames. -/
theorem r29Frames_c (v1 v2 : Value) (fl : List Frm) (w : World) (h1 : FrsAt w v1 fl) (h2 : FrsAt w v2 fl) (hl : fl.length ≤ 100) : Calls Tryd.prog 18 #[v1, v2] w fun e w' => e = .returned (.bool true) ∧ Below w.heap.size w w' := by
  obtain ⟨xs, hs1, hc1⟩ := h1
  obtain ⟨ys, hs2, hc2⟩ := h2
  obtain ⟨m, hm⟩ : ∃ m, fl.length = m := ⟨_, rfl⟩
  rw [hm] at hs1 hs2 hl
  obtain ⟨A1, c1, rfl, _⟩ := hs1.form
  obtain ⟨A2, c2, rfl, _⟩ := hs2.form
  refine calls_of_wp (c := bodyQ) Tryd.func18 rfl ?_
  rw [Tryd.ntmps18, bodyQ_eq]
  refine seq_nrm (lq0 _ A1 A2 c1 c2 m ⟨rfl, by simp, by simp⟩ w) fun a0 W0 ⟨t0, e0⟩ => ?_
  subst e0
  refine wp_seq ?_
  rw [rgQ1_eq]
  refine seq_nrm (lq1 a0 A1 A2 c1 c2 m t0 W0) fun a1 W1 ⟨t1, e1⟩ => ?_
  subst e1
  have e10 : a1.tmps[10]? = some (.bool false) := t1.get (by simp)
  refine wp_cond_false (by simp [Act.eval, e10]) (wp_skip ?_)
  refine wp_seq ?_
  rw [rgQ2_eq]
  refine seq_nrm (lq3 a1 A1 A2 c1 c2 m (t1.sub (by simp)) W1) fun a2 W2 ⟨t2, e2⟩ => ?_
  subst e2
  refine wp_block ?_
  refine wp_loop (fun a' w' => ∃ i : Nat, i ≤ m ∧ Sl a' 27 [(0, .slice A1 m c1), (1, .slice A2 m c2), (4, .bool false), (5, .int .i64 (i : Nat))] ∧ Below W2.heap.size W2 w') (fun a' _ => m - (intOf (a'.tmps.getD 5 undef)).toNat) ⟨0, by omega, t2.sub (by simp), Below.refl _ _⟩ ?_
  rintro a3 W3 ⟨i, hi, t3, b3⟩
  rw [loopQ_eq]
  refine wp_seq ?_
  refine seq_nrm (lq4 a3 A1 A2 c1 c2 m i _ rfl t3 W3) fun a4 W4 ⟨t4, e4⟩ => ?_
  subst e4
  have e14 : a4.tmps[14]? = some (.bool (decide ((i : Int) < (m : Int)))) := t4.get (by simp)
  refine wp_cond (t := decide ((i : Int) < (m : Int))) (by simp [Act.eval, e14]) ?_
  by_cases hlt : i < m
  · rw [if_pos (by simp; omega)]
    refine wp_skip ?_
    refine wp_seq (wp_block ?_)
    rw [cQ_eq]
    obtain ⟨f, hf⟩ : ∃ f, fl[i]? = some f := ⟨_, List.getElem?_eq_getElem (by omega)⟩
    obtain ⟨b1, o1, c1', e1, _⟩ := hs1.pos (by omega)
    obtain ⟨rfl, _, rfl⟩ := Value.slice.inj e1
    obtain ⟨b2, o2, c2', e2, _⟩ := hs2.pos (by omega)
    obtain ⟨rfl, _, rfl⟩ := Value.slice.inj e2
    refine seq_nrm (lq6 a4 b1 o1 b2 o2 c1 c2 m i f fl xs ys hlt hf (t4.sub (by simp)) W4 (hs1.later b3) (hs2.later b3) (hc1.later b3) (hc2.later b3)) fun a5 W5 ⟨t5, b5⟩ => ?_
    have e26 : a5.tmps[26]? = some (.bool false) := t5.get (by simp)
    refine wp_cond_false (by simp [Act.eval, e26]) (wp_skip ?_)
    refine wp_mono (lq5 a5 (some ⟨b1, o1, none⟩) (some ⟨b2, o2, none⟩) c1 c2 m i (by omega) (t5.sub (by simp)) W5) fun x a6 W6 hx => ?_
    cases x with
    | normal =>
      obtain ⟨t6, rfl⟩ := hx
      refine ⟨⟨i + 1, by omega, t6, below_step b3 b5⟩, ?_⟩
      rw [t6.getD (i := 5) (v := .int .i64 ((i + 1 : Nat) : Int)) (by simp), t3.getD (i := 5) (v := .int .i64 (i : Int)) (by simp)]
      simp [intOf]
      omega
    | _ => exact hx.elim
  · rw [if_neg (by simp; omega)]
    refine wp_exit ?_
    simp only [Exit.then, Exit.inBlock, if_true]
    refine seq_nrm (lq8 a4 A1 A2 c1 c2 m i (t4.sub (by simp)) W4) fun a5 W5 ⟨t5, e5⟩ => ?_
    subst e5
    refine wp_ret ⟨t5.defers, .bool true, ?_, rfl, b3⟩
    have h4 : a5.tmps[4]?.getD undef = .bool true := by rw [t5.get (i := 4) (v := .bool true) (by simp)]; rfl
    simp [results, Tryd.f18, h4]
end Go.Proofs.YtlanlkpamnoekaaDoor
