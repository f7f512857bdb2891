/- ImageWorst: for every argument the statement's Go text returns true and turns nothing that was there. It is proved at every argument, without a condition beyond the row. -/
import Derived.Test.YtialnndpckcgbaaDoorWst
import Derived.Test.YtialnndpckcgbaaDoorCards
import Derived.Test.YtialnndpckcgbaaDoorTie
import Derived.SevenTiedAt
import Derived.Test.YtialnndpckcgbaaDoorFrame
import Derived.Deep.RegionHeld3
import Derived.Deep.DrawnRows
namespace Go.Proofs.YtialnndpckcgbaaDoor.imageWorst
open Go.ChangeShapes Go.WideShapes Go.ChangeAt Go.RowKit Rf
attribute [local go_sem ↓] run_max2 run_min2
open Mem
set_option maxHeartbeats 8000000 in
set_option maxRecDepth 100000 in
theorem walk (L M : List Value) (kinds : List Int) (ss : List (List Value)) (lens : List Nat) (nsig nfl : Nat) (clr st age n : Int) (A : Option Addr) (c : Nat) (A1 : Option Addr) (c1 : Nat) (A3 : Option Addr) (c3 : Nat) (ve : Value) (free : List Int) (occ nor rev lam : BitVec 32) (w : World) (hT : Tops w)
    (hA : LayA w L kinds ss lens nsig nfl clr st A c A1 c1 A3 c3 ve) (hM : ImgF M age free occ nor rev lam) :
    Calls Tryd.prog 3 #[.agg L.toArray, .agg M.toArray, .int .i64 n] w fun e w' => e = .returned (.bool true) ∧ Below w.heap.size w w' := by
  have S := SV.new w L M hT
  have szL := lay_size hA.f.len
  have szM := img_size hM.len
  obtain ⟨g, hgr⟩ : ∃ g, greatV kinds.length nsig nfl lens = g := ⟨_, rfl⟩
  have HG := Lib.hid hgr
  have W0r := wor kinds nsig n clr free occ nor rev lam (decide (st < age))
  obtain ⟨s, hs⟩ : ∃ s, decide (st < age) = s := ⟨_, rfl⟩
  rw [hs] at W0r
  have KS := Lib.hid hs.symm
  obtain ⟨O, hO⟩ : ∃ O, occV kinds.length occ s free clr n = O := ⟨_, rfl⟩
  obtain ⟨Li, hLi⟩ : ∃ Li, litV nsig lam s n = Li := ⟨_, rfl⟩
  obtain ⟨T, hTo⟩ : ∃ T, toldV kinds.length occ s n = T := ⟨_, rfl⟩
  obtain ⟨a, ha⟩ : ∃ a, atV kinds nor rev s n = a := ⟨_, rfl⟩
  obtain ⟨b, hb⟩ : ∃ b, bothV kinds nor rev n = b := ⟨_, rfl⟩
  obtain ⟨h, hh⟩ : ∃ h, hasV kinds.length n = h := ⟨_, rfl⟩
  rw [hO, hLi, hTo, ha, hb, hh] at W0r
  have HB := Lib.hid hb
  have HH := Lib.hid hh
  have HW := Lib.hid W0r
  have KO : Hid (O = occV kinds.length occ (decide (st < age)) free clr n) := Lib.hid (by rw [hs]; exact hO.symm)
  have KL : Hid (Li = litV nsig lam (decide (st < age)) n) := Lib.hid (by rw [hs]; exact hLi.symm)
  have KT : Hid (T = toldV kinds.length occ (decide (st < age)) n) := Lib.hid (by rw [hs]; exact hTo.symm)
  have KA : Hid (a = atV kinds nor rev (decide (st < age)) n) := Lib.hid (by rw [hs]; exact ha.symm)
  have hst := hs
  clear hgr hO hLi hTo ha hs hb hh W0r
  go_enter Tryd.func3, Tryd.ntmps3
  go_upto_region 1 with (fail)
  generalize (w.alloc (.cells L.toArray 29)).alloc (.cells M.toArray 35) = W0 at *
  go_wp2_with (first
    | refine wpList_load_g (by rfl) 29 (.tmp 3) (by rfl) w.heap.size 0 (by rfl) L _ (range_of S.l) Tryd.underlying29 rfl szL ?_
    | refine wpList_load_g (by rfl) 35 (.tmp 4) (by rfl) (w.heap.size + 1) 0 (by rfl) M _ (range_of S.m) Tryd.underlying35 rfl szM ?_)
  refine (Great_g L kinds.length nsig nfl lens A A1 A3 c c1 c3 ve g _ HG.out.symm hA.f.sec hA.f.sig hA.ex hA.fl (hA.ea.later S.bb)).mono ?_
  rintro e W1 ⟨rfl, b⟩
  replace S := S.later b
  clear b
  cases g
  rotate_left
  · go_wp2_with fail
    refine (wakes_c _ S.t).mono ?_
    rintro e W2 ⟨rfl, b⟩
    go_wp2
    go_ret
    exact ⟨rfl, (S.later b).bb⟩
  have x6 := cell_list S.l hA.f.st
  have m0 := cell_list S.m hM.age
  go_wp2_with (first
    | refine wpList_load_g (by rfl) 29 (.tmp 3) (by rfl) w.heap.size 0 (by rfl) L _ (range_of S.l) Tryd.underlying29 rfl szL ?_
    | refine wpList_load_g (by rfl) 35 (.tmp 4) (by rfl) (w.heap.size + 1) 0 (by rfl) M _ (range_of S.m) Tryd.underlying35 rfl szM ?_)
  refine (Stale_g L M age st s _ KS.out hA.f.st hM.age).mono ?_
  rintro e X ⟨rfl, b⟩
  replace S := S.later b
  clear b x6 m0 W1
  go_upto_region 6 with (fail)
  have x0 := cell_list S.l hA.f.sec
  go_cut [8] from 28 to 36 (fun hv wx => hv = .bool h ∧ SV w wx L M)
  case first =>
    by_cases h0 : 0 ≤ n
    · have q0 : decide (0 ≤ n) = true := decide_eq_true h0
      by_cases h1 : n < (kinds.length : Int)
      · have q1 : decide (n < (kinds.length : Int)) = true := decide_eq_true h1
        have q2 : h = true := by rw [← HH.out]; simp [hasV, q0, q1]
        have HQ := Lib.hid q2
        clear q2
        go_wp2
        go_meet
        exact ⟨by rw [HQ.out], S⟩
      · have q1 : decide (n < (kinds.length : Int)) = false := decide_eq_false h1
        have q2 : h = false := by rw [← HH.out]; simp [hasV, q1]
        have HQ := Lib.hid q2
        clear q2
        go_wp2
        go_meet
        exact ⟨by rw [HQ.out], S⟩
    · have q0 : decide (0 ≤ n) = false := decide_eq_false h0
      have q2 : h = false := by rw [← HH.out]; simp [hasV, q0]
      have HQ := Lib.hid q2
      clear q2
      go_wp2
      go_meet
      exact ⟨by rw [HQ.out], S⟩
  case rest =>
    clear S x0
    obtain ⟨rfl, S⟩ := hcut
    go_upto_region 7 with (fail)
    have y1 := cell_list S.m hM.nor
    have y2 := cell_list S.m hM.rev
    go_cut [9] from 37 to 60 (fun bv wx => bv = .bool b ∧ SV w wx L M)
    case first =>
      cases h
      · have q2 : b = false := by rw [← HB.out]; simp [bothV, HH.out]
        have HQ := Lib.hid q2
        clear q2
        go_wp2
        go_meet
        exact ⟨by rw [HQ.out], S⟩
      · have hh := HH.out
        simp only [hasV, Bool.and_eq_true, decide_eq_true_eq] at hh
        obtain ⟨k, rfl⟩ := Int.eq_ofNat_of_zero_le hh.1
        clear hh
        by_cases h32 : k < 32
        · have q3 : decide ((k : Int) < 32) = true := decide_eq_true (by omega)
          have q4 := and31 k h32
          have q5 := low32i nor k
          have q6 := low32i rev k
          have q2 : b = (nor.getLsbD k == rev.getLsbD k) := by rw [← HB.out]; unfold bothV; rw [HH.out, q3]; simp
          have HQ := Lib.hid q2
          have i1 : (k : Int) < 32 := by omega
          clear q2
          generalize nor.getLsbD k = p at *
          generalize rev.getLsbD k = q at *
          cases p <;> cases q
          all_goals
            simp only [if_true, reduceIte, Bool.false_eq_true] at q5 q6
            go_wp2
            go_meet
            exact ⟨by rw [HQ.out]; rfl, S⟩
        · have q3 : decide ((k : Int) < 32) = false := decide_eq_false (by omega)
          have q2 : b = false := by rw [← HB.out]; unfold bothV; rw [q3]; simp
          have HQ := Lib.hid q2
          clear q2
          go_wp2
          go_meet
          exact ⟨by rw [HQ.out], S⟩
    case rest =>
      clear S y1 y2
      obtain ⟨rfl, S⟩ := hcut
      go_upto_region 8 with (fail)
      have z1 := cell_list S.l hA.f.sig
      go_cut [113] from 61 to 113 (fun tv wx => tv = .bool false ∧ SV w wx L M)
      case first =>
        have K1 := Lib.hid HW.out.k1
        have K2 := Lib.hid HW.out.k2
        have K3 := Lib.hid HW.out.k3
        cases s
        rotate_left
        · obtain rfl : O = true := K1.out rfl
          obtain rfl : a = -1 := K2.out rfl
          obtain rfl : Li = false := K3.out rfl
          go_wp2_with (first
            | refine wpList_load_g (by rfl) 29 (.tmp 3) (by rfl) w.heap.size 0 (by rfl) L _ (range_of S.l) Tryd.underlying29 rfl szL ?_
            | refine wpList_load_g (by rfl) 35 (.tmp 4) (by rfl) (w.heap.size + 1) 0 (by rfl) M _ (range_of S.m) Tryd.underlying35 rfl szM ?_)
          refine (Occupied_g L M kinds.length nsig clr st age n A A1 c c1 free occ nor rev lam true _ (KO.out) hA.f hM).mono ?_
          rintro e X ⟨rfl, b⟩
          replace S := S.later b
          clear b
          go_wp2_with (first
            | refine wpList_load_g (by rfl) 29 (.tmp 3) (by rfl) w.heap.size 0 (by rfl) L _ (range_of S.l) Tryd.underlying29 rfl szL ?_
            | refine wpList_load_g (by rfl) 35 (.tmp 4) (by rfl) (w.heap.size + 1) 0 (by rfl) M _ (range_of S.m) Tryd.underlying35 rfl szM ?_)
          refine (At_g L M kinds kinds.length nsig clr st age n A A1 c c1 free occ nor rev lam (-1) _ rfl KA.out hA.f hM (hA.sa.later S.bb)).mono ?_
          rintro e X ⟨rfl, b⟩
          replace S := S.later b
          clear b
          go_wp2_with (first
            | refine wpList_load_g (by rfl) 29 (.tmp 3) (by rfl) w.heap.size 0 (by rfl) L _ (range_of S.l) Tryd.underlying29 rfl szL ?_
            | refine wpList_load_g (by rfl) 35 (.tmp 4) (by rfl) (w.heap.size + 1) 0 (by rfl) M _ (range_of S.m) Tryd.underlying35 rfl szM ?_)
          refine (Lit_g L M kinds.length nsig clr st age n A A1 c c1 free occ nor rev lam false _ (KL.out) hA.f hM).mono ?_
          rintro e X ⟨rfl, b⟩
          replace S := S.later b
          clear b
          go_wp2
          go_meet
          exact ⟨rfl, S⟩
        · cases h
          · obtain rfl : O = true := K1.out rfl
            obtain rfl : a = -1 := K2.out rfl
            go_wp2_with (first
              | refine wpList_load_g (by rfl) 29 (.tmp 3) (by rfl) w.heap.size 0 (by rfl) L _ (range_of S.l) Tryd.underlying29 rfl szL ?_
              | refine wpList_load_g (by rfl) 35 (.tmp 4) (by rfl) (w.heap.size + 1) 0 (by rfl) M _ (range_of S.m) Tryd.underlying35 rfl szM ?_)
            refine (Occupied_g L M kinds.length nsig clr st age n A A1 c c1 free occ nor rev lam true _ (KO.out) hA.f hM).mono ?_
            rintro e X ⟨rfl, b⟩
            replace S := S.later b
            clear b
            go_wp2_with (first
              | refine wpList_load_g (by rfl) 29 (.tmp 3) (by rfl) w.heap.size 0 (by rfl) L _ (range_of S.l) Tryd.underlying29 rfl szL ?_
              | refine wpList_load_g (by rfl) 35 (.tmp 4) (by rfl) (w.heap.size + 1) 0 (by rfl) M _ (range_of S.m) Tryd.underlying35 rfl szM ?_)
            refine (At_g L M kinds kinds.length nsig clr st age n A A1 c c1 free occ nor rev lam (-1) _ rfl KA.out hA.f hM (hA.sa.later S.bb)).mono ?_
            rintro e X ⟨rfl, b⟩
            replace S := S.later b
            clear b
            have zz := cell_list S.l hA.f.sig
            rcases h0 : decide (n < 0) with _ | _
            · rcases h1 : decide ((nsig : Int) ≤ n) with _ | _
              · go_wp2
                go_meet
                exact ⟨rfl, S⟩
              · obtain rfl : Li = false := K3.out (by rw [h1]; simp)
                go_wp2_with (first
                  | refine wpList_load_g (by rfl) 29 (.tmp 3) (by rfl) w.heap.size 0 (by rfl) L _ (range_of S.l) Tryd.underlying29 rfl szL ?_
                  | refine wpList_load_g (by rfl) 35 (.tmp 4) (by rfl) (w.heap.size + 1) 0 (by rfl) M _ (range_of S.m) Tryd.underlying35 rfl szM ?_)
                refine (Lit_g L M kinds.length nsig clr st age n A A1 c c1 free occ nor rev lam false _ (KL.out) hA.f hM).mono ?_
                rintro e X ⟨rfl, b⟩
                replace S := S.later b
                clear b
                go_wp2
                go_meet
                exact ⟨rfl, S⟩
            · obtain rfl : Li = false := K3.out (by rw [h0]; simp)
              go_wp2_with (first
                | refine wpList_load_g (by rfl) 29 (.tmp 3) (by rfl) w.heap.size 0 (by rfl) L _ (range_of S.l) Tryd.underlying29 rfl szL ?_
                | refine wpList_load_g (by rfl) 35 (.tmp 4) (by rfl) (w.heap.size + 1) 0 (by rfl) M _ (range_of S.m) Tryd.underlying35 rfl szM ?_)
              refine (Lit_g L M kinds.length nsig clr st age n A A1 c c1 free occ nor rev lam false _ (KL.out) hA.f hM).mono ?_
              rintro e X ⟨rfl, b⟩
              replace S := S.later b
              clear b
              go_wp2
              go_meet
              exact ⟨rfl, S⟩
          · rcases h24 : decide (24 ≤ n) with _ | _
            · cases b
              · have zz := cell_list S.l hA.f.sig
                rcases h0 : decide (n < 0) with _ | _
                · rcases h1 : decide ((nsig : Int) ≤ n) with _ | _
                  · go_wp2
                    go_meet
                    exact ⟨rfl, S⟩
                  · obtain rfl : Li = false := K3.out (by rw [h1]; simp)
                    go_wp2_with (first
                      | refine wpList_load_g (by rfl) 29 (.tmp 3) (by rfl) w.heap.size 0 (by rfl) L _ (range_of S.l) Tryd.underlying29 rfl szL ?_
                      | refine wpList_load_g (by rfl) 35 (.tmp 4) (by rfl) (w.heap.size + 1) 0 (by rfl) M _ (range_of S.m) Tryd.underlying35 rfl szM ?_)
                    refine (Lit_g L M kinds.length nsig clr st age n A A1 c c1 free occ nor rev lam false _ (KL.out) hA.f hM).mono ?_
                    rintro e X ⟨rfl, b⟩
                    replace S := S.later b
                    clear b
                    go_wp2
                    go_meet
                    exact ⟨rfl, S⟩
                · obtain rfl : Li = false := K3.out (by rw [h0]; simp)
                  go_wp2_with (first
                    | refine wpList_load_g (by rfl) 29 (.tmp 3) (by rfl) w.heap.size 0 (by rfl) L _ (range_of S.l) Tryd.underlying29 rfl szL ?_
                    | refine wpList_load_g (by rfl) 35 (.tmp 4) (by rfl) (w.heap.size + 1) 0 (by rfl) M _ (range_of S.m) Tryd.underlying35 rfl szM ?_)
                  refine (Lit_g L M kinds.length nsig clr st age n A A1 c c1 free occ nor rev lam false _ (KL.out) hA.f hM).mono ?_
                  rintro e X ⟨rfl, b⟩
                  replace S := S.later b
                  clear b
                  go_wp2
                  go_meet
                  exact ⟨rfl, S⟩
              · obtain rfl : a = -1 := K2.out rfl
                go_wp2_with (first
                  | refine wpList_load_g (by rfl) 29 (.tmp 3) (by rfl) w.heap.size 0 (by rfl) L _ (range_of S.l) Tryd.underlying29 rfl szL ?_
                  | refine wpList_load_g (by rfl) 35 (.tmp 4) (by rfl) (w.heap.size + 1) 0 (by rfl) M _ (range_of S.m) Tryd.underlying35 rfl szM ?_)
                refine (At_g L M kinds kinds.length nsig clr st age n A A1 c c1 free occ nor rev lam (-1) _ rfl KA.out hA.f hM (hA.sa.later S.bb)).mono ?_
                rintro e X ⟨rfl, b⟩
                replace S := S.later b
                clear b
                have zz := cell_list S.l hA.f.sig
                rcases h0 : decide (n < 0) with _ | _
                · rcases h1 : decide ((nsig : Int) ≤ n) with _ | _
                  · go_wp2
                    go_meet
                    exact ⟨rfl, S⟩
                  · obtain rfl : Li = false := K3.out (by rw [h1]; simp)
                    go_wp2_with (first
                      | refine wpList_load_g (by rfl) 29 (.tmp 3) (by rfl) w.heap.size 0 (by rfl) L _ (range_of S.l) Tryd.underlying29 rfl szL ?_
                      | refine wpList_load_g (by rfl) 35 (.tmp 4) (by rfl) (w.heap.size + 1) 0 (by rfl) M _ (range_of S.m) Tryd.underlying35 rfl szM ?_)
                    refine (Lit_g L M kinds.length nsig clr st age n A A1 c c1 free occ nor rev lam false _ (KL.out) hA.f hM).mono ?_
                    rintro e X ⟨rfl, b⟩
                    replace S := S.later b
                    clear b
                    go_wp2
                    go_meet
                    exact ⟨rfl, S⟩
                · obtain rfl : Li = false := K3.out (by rw [h0]; simp)
                  go_wp2_with (first
                    | refine wpList_load_g (by rfl) 29 (.tmp 3) (by rfl) w.heap.size 0 (by rfl) L _ (range_of S.l) Tryd.underlying29 rfl szL ?_
                    | refine wpList_load_g (by rfl) 35 (.tmp 4) (by rfl) (w.heap.size + 1) 0 (by rfl) M _ (range_of S.m) Tryd.underlying35 rfl szM ?_)
                  refine (Lit_g L M kinds.length nsig clr st age n A A1 c c1 free occ nor rev lam false _ (KL.out) hA.f hM).mono ?_
                  rintro e X ⟨rfl, b⟩
                  replace S := S.later b
                  clear b
                  go_wp2
                  go_meet
                  exact ⟨rfl, S⟩
            · obtain rfl : O = true := K1.out (by rw [h24]; rfl)
              go_wp2_with (first
                | refine wpList_load_g (by rfl) 29 (.tmp 3) (by rfl) w.heap.size 0 (by rfl) L _ (range_of S.l) Tryd.underlying29 rfl szL ?_
                | refine wpList_load_g (by rfl) 35 (.tmp 4) (by rfl) (w.heap.size + 1) 0 (by rfl) M _ (range_of S.m) Tryd.underlying35 rfl szM ?_)
              refine (Occupied_g L M kinds.length nsig clr st age n A A1 c c1 free occ nor rev lam true _ (KO.out) hA.f hM).mono ?_
              rintro e X ⟨rfl, b⟩
              replace S := S.later b
              clear b
              cases b
              · have zz := cell_list S.l hA.f.sig
                rcases h0 : decide (n < 0) with _ | _
                · rcases h1 : decide ((nsig : Int) ≤ n) with _ | _
                  · go_wp2
                    go_meet
                    exact ⟨rfl, S⟩
                  · obtain rfl : Li = false := K3.out (by rw [h1]; simp)
                    go_wp2_with (first
                      | refine wpList_load_g (by rfl) 29 (.tmp 3) (by rfl) w.heap.size 0 (by rfl) L _ (range_of S.l) Tryd.underlying29 rfl szL ?_
                      | refine wpList_load_g (by rfl) 35 (.tmp 4) (by rfl) (w.heap.size + 1) 0 (by rfl) M _ (range_of S.m) Tryd.underlying35 rfl szM ?_)
                    refine (Lit_g L M kinds.length nsig clr st age n A A1 c c1 free occ nor rev lam false _ (KL.out) hA.f hM).mono ?_
                    rintro e X ⟨rfl, b⟩
                    replace S := S.later b
                    clear b
                    go_wp2
                    go_meet
                    exact ⟨rfl, S⟩
                · obtain rfl : Li = false := K3.out (by rw [h0]; simp)
                  go_wp2_with (first
                    | refine wpList_load_g (by rfl) 29 (.tmp 3) (by rfl) w.heap.size 0 (by rfl) L _ (range_of S.l) Tryd.underlying29 rfl szL ?_
                    | refine wpList_load_g (by rfl) 35 (.tmp 4) (by rfl) (w.heap.size + 1) 0 (by rfl) M _ (range_of S.m) Tryd.underlying35 rfl szM ?_)
                  refine (Lit_g L M kinds.length nsig clr st age n A A1 c c1 free occ nor rev lam false _ (KL.out) hA.f hM).mono ?_
                  rintro e X ⟨rfl, b⟩
                  replace S := S.later b
                  clear b
                  go_wp2
                  go_meet
                  exact ⟨rfl, S⟩
              · obtain rfl : a = -1 := K2.out rfl
                go_wp2_with (first
                  | refine wpList_load_g (by rfl) 29 (.tmp 3) (by rfl) w.heap.size 0 (by rfl) L _ (range_of S.l) Tryd.underlying29 rfl szL ?_
                  | refine wpList_load_g (by rfl) 35 (.tmp 4) (by rfl) (w.heap.size + 1) 0 (by rfl) M _ (range_of S.m) Tryd.underlying35 rfl szM ?_)
                refine (At_g L M kinds kinds.length nsig clr st age n A A1 c c1 free occ nor rev lam (-1) _ rfl KA.out hA.f hM (hA.sa.later S.bb)).mono ?_
                rintro e X ⟨rfl, b⟩
                replace S := S.later b
                clear b
                have zz := cell_list S.l hA.f.sig
                rcases h0 : decide (n < 0) with _ | _
                · rcases h1 : decide ((nsig : Int) ≤ n) with _ | _
                  · go_wp2
                    go_meet
                    exact ⟨rfl, S⟩
                  · obtain rfl : Li = false := K3.out (by rw [h1]; simp)
                    go_wp2_with (first
                      | refine wpList_load_g (by rfl) 29 (.tmp 3) (by rfl) w.heap.size 0 (by rfl) L _ (range_of S.l) Tryd.underlying29 rfl szL ?_
                      | refine wpList_load_g (by rfl) 35 (.tmp 4) (by rfl) (w.heap.size + 1) 0 (by rfl) M _ (range_of S.m) Tryd.underlying35 rfl szM ?_)
                    refine (Lit_g L M kinds.length nsig clr st age n A A1 c c1 free occ nor rev lam false _ (KL.out) hA.f hM).mono ?_
                    rintro e X ⟨rfl, b⟩
                    replace S := S.later b
                    clear b
                    go_wp2
                    go_meet
                    exact ⟨rfl, S⟩
                · obtain rfl : Li = false := K3.out (by rw [h0]; simp)
                  go_wp2_with (first
                    | refine wpList_load_g (by rfl) 29 (.tmp 3) (by rfl) w.heap.size 0 (by rfl) L _ (range_of S.l) Tryd.underlying29 rfl szL ?_
                    | refine wpList_load_g (by rfl) 35 (.tmp 4) (by rfl) (w.heap.size + 1) 0 (by rfl) M _ (range_of S.m) Tryd.underlying35 rfl szM ?_)
                  refine (Lit_g L M kinds.length nsig clr st age n A A1 c c1 free occ nor rev lam false _ (KL.out) hA.f hM).mono ?_
                  rintro e X ⟨rfl, b⟩
                  replace S := S.later b
                  clear b
                  go_wp2
                  go_meet
                  exact ⟨rfl, S⟩
      case rest =>
        clear S z1
        obtain ⟨rfl, S⟩ := hcut
        go_upto_region 10 with (fail)
        go_cut [131] from 114 to 131 (fun tv wx => tv = .bool false ∧ SV w wx L M)
        case first =>
          have k4 := HW.out.k4
          have K4 := Lib.hid k4
          clear k4
          go_wp2_with (first
            | refine wpList_load_g (by rfl) 29 (.tmp 3) (by rfl) w.heap.size 0 (by rfl) L _ (range_of S.l) Tryd.underlying29 rfl szL ?_
            | refine wpList_load_g (by rfl) 35 (.tmp 4) (by rfl) (w.heap.size + 1) 0 (by rfl) M _ (range_of S.m) Tryd.underlying35 rfl szM ?_)
          refine (Told_g L M kinds.length nsig clr st age n A A1 c c1 free occ nor rev lam T _ (KT.out) hA.f hM).mono ?_
          rintro e X ⟨rfl, b⟩
          replace S := S.later b
          clear b
          cases T
          · go_wp2
            go_meet
            exact ⟨rfl, S⟩
          · obtain ⟨rfl, rfl, rfl⟩ := K4.out rfl
            go_wp2_with (first
              | refine wpList_load_g (by rfl) 29 (.tmp 3) (by rfl) w.heap.size 0 (by rfl) L _ (range_of S.l) Tryd.underlying29 rfl szL ?_
              | refine wpList_load_g (by rfl) 35 (.tmp 4) (by rfl) (w.heap.size + 1) 0 (by rfl) M _ (range_of S.m) Tryd.underlying35 rfl szM ?_)
            refine (Occupied_g L M kinds.length nsig clr st age n A A1 c c1 free occ nor rev lam true _ (KO.out) hA.f hM).mono ?_
            rintro e X ⟨rfl, b⟩
            replace S := S.later b
            clear b
            go_wp2
            go_meet
            exact ⟨rfl, S⟩
        case rest =>
          clear S
          obtain ⟨rfl, S⟩ := hcut
          go_upto_region 12 with (fail)
          go_wp2_with (first
            | refine wpList_load_g (by rfl) 29 (.tmp 3) (by rfl) w.heap.size 0 (by rfl) L _ (range_of S.l) Tryd.underlying29 rfl szL ?_
            | refine wpList_load_g (by rfl) 35 (.tmp 4) (by rfl) (w.heap.size + 1) 0 (by rfl) M _ (range_of S.m) Tryd.underlying35 rfl szM ?_)
          refine (At_g L M kinds kinds.length nsig clr st age n A A1 c c1 free occ nor rev lam a _ rfl KA.out hA.f hM (hA.sa.later S.bb)).mono ?_
          rintro e X ⟨rfl, b⟩
          replace S := S.later b
          clear b
          go_upto_region 13 with (fail)
          go_cut [158] from 136 to 158 (fun tv wx => tv = .bool false ∧ SV w wx L M)
          case first =>
            have x0 := cell_list S.l hA.f.sec
            rcases HW.out.k5 with rfl | ⟨ha5, rfl, hk⟩
            · go_wp2
              go_meet
              exact ⟨rfl, S⟩
            · have hh := HH.out
              simp only [hasV, Bool.and_eq_true, decide_eq_true_eq] at hh
              obtain ⟨k, rfl⟩ := Int.eq_ofNat_of_zero_le hh.1
              have hkl : k < kinds.length := by omega
              have i1 : (k : Int) < (kinds.length : Int) := hh.2
              have hz : kinds[k]? = some 2 := by
                rw [List.getElem?_eq_getElem hkl]
                simp [List.getD, List.getElem?_eq_getElem hkl] at hk
                rw [hk]
              obtain ⟨A', c', hv, _, _, hcase⟩ := hA.sa.later S.bb
              obtain ⟨rfl, _, rfl⟩ := Value.slice.inj hv
              obtain ⟨bs, os, rfl, hbs, hcs⟩ := hcase.resolve_left (by omega)
              have y0 := hcs k 2 hz
              clear hh hz hv hcase hcs hk hkl
              rcases ha5 with rfl | rfl
              all_goals
                go_wp2
                go_meet
                exact ⟨rfl, S⟩
          case rest =>
            clear S
            obtain ⟨rfl, S⟩ := hcut
            obtain ⟨mk, hmk⟩ : ∃ mk, maskB (fun i => occV kinds.length occ (decide (st < age)) free clr i) (min kinds.length 24) = mk := ⟨_, rfl⟩
            have HMK : Hid (∀ k : Nat, mk.getLsbD k = (decide (k < min kinds.length 24) && occV kinds.length occ (decide (st < age)) free clr k)) := Lib.hid (fun k => by rw [← hmk, maskB_get _ _ _ (by omega)])
            have HMZ : Hid ((mk.toNat : Int) = ((maskB (fun i => occV kinds.length occ (decide (st < age)) free clr i) (min kinds.length 24)).toNat : Int)) := Lib.hid (by rw [hmk])
            clear hmk
            go_wp2_with (first
              | refine wpList_load_g (by rfl) 29 (.tmp 3) (by rfl) w.heap.size 0 (by rfl) L _ (range_of S.l) Tryd.underlying29 rfl szL ?_
              | refine wpList_load_g (by rfl) 35 (.tmp 4) (by rfl) (w.heap.size + 1) 0 (by rfl) M _ (range_of S.m) Tryd.underlying35 rfl szM ?_)
            refine (Mask_g L M ss kinds.length nsig clr st age A A1 c c1 free occ nor rev lam mk.toNat _ hA.sl.symm HMZ.out hA.f hM (by have := hA.sr.later S.bb; rwa [hA.sl] at this)).mono ?_
            rintro e X ⟨rfl, b⟩
            replace S := S.later b
            clear b
            go_wp2_with fail
            have x0 := cell_list S.l hA.f.sec
            go_loopw [12] (fun i wr => ∃ k : Nat, k ≤ 32 ∧ i = .int .i64 k ∧ SV w wr L M) (fun i _ => 32 - (intOf i).toNat)
            case atStart => exact ⟨0, Nat.zero_le _, rfl, S⟩
            case round =>
              clear S x0
              obtain ⟨k, hk, rfl, S⟩ := hrel
              have x0 := cell_list S.l hA.f.sec
              by_cases hlt : k < 32
              · have i1 : (k : Int) < 32 := by omega
                have hlow := low32 mk k
                have hmk := HMK.out k
                have e1 : decide ((k : Int) < (kinds.length : Int)) = decide (k < kinds.length) := by rw [Bool.eq_iff_iff]; simp
                have e2 : decide ((k : Int) < 24) = decide (k < 24) := by rw [Bool.eq_iff_iff]; simp; omega
                have e3 : decide (k < min kinds.length 24) = (decide (k < kinds.length) && decide (k < 24)) := by rw [Bool.eq_iff_iff]; simp; omega
                rw [e3] at hmk
                obtain ⟨p, hp⟩ : ∃ p, decide (k < kinds.length) = p := ⟨_, rfl⟩
                obtain ⟨q, hq⟩ : ∃ q, decide (k < 24) = q := ⟨_, rfl⟩
                rw [hp] at e1 hmk
                rw [hq] at e2 hmk
                obtain ⟨fk, hfk⟩ : ∃ fk, occV kinds.length occ (decide (st < age)) free clr k = fk := ⟨_, rfl⟩
                rw [hfk] at hmk
                have HFK := Lib.hid hfk.symm
                have HMK2 := Lib.hid hmk
                obtain ⟨mb, hmb⟩ : ∃ mb, mk.getLsbD k = mb := ⟨_, rfl⟩
                rw [hmb] at hlow hmk
                have HMK2 := Lib.hid hmk
                clear hmk hfk hmb e3
                cases p
                · have hmb : mb = false := by rw [HMK2.out]; rfl
                  subst hmb
                  go_wp2
                  go_roundw
                  case rel => exact ⟨k + 1, by omega, by go_num, S⟩
                  case measure => simp [intOf]; omega
                · cases q
                  · have hmb : mb = false := by rw [HMK2.out]; rfl
                    subst hmb
                    go_wp2
                    go_roundw
                    case rel => exact ⟨k + 1, by omega, by go_num, S⟩
                    case measure => simp [intOf]; omega
                  · have hmb : mb = fk := by rw [HMK2.out]; simp
                    subst hmb
                    go_wp2_with (first
                      | refine wpList_load_g (by rfl) 29 (.tmp 3) (by rfl) w.heap.size 0 (by rfl) L _ (range_of S.l) Tryd.underlying29 rfl szL ?_
                      | refine wpList_load_g (by rfl) 35 (.tmp 4) (by rfl) (w.heap.size + 1) 0 (by rfl) M _ (range_of S.m) Tryd.underlying35 rfl szM ?_)
                    refine (Occupied_g L M kinds.length nsig clr st age k A A1 c c1 free occ nor rev lam mb _ (HFK.out) hA.f hM).mono ?_
                    rintro e X ⟨rfl, b⟩
                    replace S := S.later b
                    clear b
                    cases mb
                    all_goals
                      go_wp2
                      go_roundw
                      case rel => exact ⟨k + 1, by omega, by go_num, S⟩
                      case measure => simp [intOf]; omega
              · obtain rfl : k = 32 := by omega
                go_wp2_with fail
                refine (wakes_c _ S.t).mono ?_
                rintro e W5 ⟨rfl, b⟩
                go_wp2
                go_ret
                exact ⟨rfl, (S.later b).bb⟩

theorem own : ownKnob Tryd.prog.godebug = none := by kernel_rfl
theorem laidOut : laidOutB Tryd.prog = true := by kernel_rfl
noncomputable def wit (os : Os) : World :=
  { World.holding Tryd.prog os ⟨#[], #[], []⟩ with heap := (World.holding Tryd.prog os ⟨#[], #[], []⟩).heap.modify 0 fun
      | .cells _ t frozen => .cells #[.int .i64 1073741824, .int .i64 65535] t frozen
      | o => o }
set_option maxRecDepth 100000 in
theorem lifted (os : Os) (started : os.Started) (H : Type) (enc : TypeId × Value → H) (F : Stop.Interp) :
    ReturnsInHanded {} Tryd.checked os 3 .any ((OpenSpec.ofChange Rows.imageWorstSpec).preRow enc Tryd.prog Tryd.f3 Rows.imageWorstRow.domain false Rows.imageWorstRow.laid) (((OpenSpec.ofChange Rows.imageWorstSpec).at F).post enc Tryd.prog Tryd.f3 false true false false) := by
  obtain ⟨x, hx⟩ : ∃ x, DataW.whole enc Tryd.prog ((wit os).forCall (fun _ _ => 0) ⟨#[], #[.agg zL, .agg zM, .int .i64 0], []⟩).memory Tryd.f3.params.toList Rows.imageWorstSpec.vars false (#[.agg zL, .agg zM, .int .i64 0] : Array Value).toList 8 = some x := Option.isSome_iff_exists.1 (by kernel_rfl)
  refine Fr.lift (C := Tryd.checked) (s := OpenSpec.ofChange Rows.imageWorstSpec) own started (by kernel_rfl) Tryd.func3
    (witness_row_at (enc := enc) (C := Tryd.checked) false (wit os) #[.agg zL, .agg zM, .int .i64 0] rfl (by kernel_rfl) (by kernel_rfl) (by kernel_rfl)
      (OpenSpec.preRow_of_cond 8 hx rfl (fun k hk => by cases hk) (by kernel_rfl) (laidMet_of_run' 8 (by kernel_rfl) (by kernel_rfl))))
    laidOut (by kernel_rfl) rfl Tryd.underlying4 rfl rfl ?_ ?_
  · intro ds hds
    match ds, hds with
    | [_, _, _], _ => rfl
  · intro W base args ds before hval hA hlt _ hz hL
    rw [Tryd.params3] at hA hval
    obtain ⟨v0, vs0, d0, ds0, p0, q0, hargs, rfl, rfl, h0, r0⟩ := trodAll_cons hA
    obtain ⟨v1, vs1, d1, ds1, p1, q1, rfl, rfl, rfl, h1, r1⟩ := trodAll_cons r0
    obtain ⟨v2, vs2, d2, ds2, p2, q2, rfl, rfl, rfl, h2, r2⟩ := trodAll_cons r1
    obtain ⟨rfl, rfl, rfl⟩ := trodAll_nil r2
    obtain rfl : args = #[v0, v1, v2] := by cases args; simp_all
    obtain ⟨L, kinds, ss, lens, nsig, nfl, clr, st, A, c, A1, c1, A3, c3, ve, rfl, hLA⟩ := open_layout (hval 0 _ v0 rfl rfl) h0
    obtain ⟨M, age, free, occ, nor, rev, lam, rfl, hM, hag, hfr⟩ := open_image (hval 1 _ v1 rfl rfl) h1
    obtain ⟨n, rfl, rfl, rfl, w1⟩ := open_int Tryd.underlying3 (hval 2 _ v2 rfl rfl) h2
    exact walk L M kinds ss lens nsig nfl clr st age n A c A1 c1 A3 c3 ve free occ nor rev lam W (tops_of_laid hL) hLA hM

theorem said : Rows.ImageWorstSaid :=
  OpenClaim.holds_of_cond 3 Tryd.f3 rfl rfl rfl rfl rfl rfl rfl ⟨rfl, rfl, rfl, rfl, rfl⟩ rfl rfl rfl rfl rfl (by kernel_rfl) Tryd.func3 (by kernel_rfl)
    (of_decide_eq_true (by kernel_rfl)) (by unfold Func.isWrapper; first | (rw [if_pos (by decide +kernel)]; kernel_rfl) | (rw [if_neg (by decide +kernel)]; exact ⟨rfl, rfl⟩))
    (fun os started H enc _ F => by rw [OpenClaim.pre_eq_preRow]; exact lifted os started H enc F)

theorem plain (f : FuncId) (fn : Func) (hf : Tryd.pinned.checked.prog.funcNamed "lockbar/lockbarlaw15.ImageWorst" = some f) (hfn : Tryd.pinned.checked.prog.funcs[f]? = some fn) :
    false = Tryd.pinned.checked.prog.looks [] ∧ ∀ (j : Nat) t, fn.params[j]? = some t → Tryd.pinned.checked.prog.wantsStandIn t = false := by
  obtain rfl : f = 3 := Option.some.inj ((show Tryd.prog.funcNamed "lockbar/lockbarlaw15.ImageWorst" = some 3 by kernel_rfl).symm.trans hf) |>.symm
  obtain rfl : fn = Tryd.f3 := (Option.some.inj (Tryd.func3.symm.trans hfn)).symm
  refine ⟨by kernel_rfl, fun j t ht => ?_⟩
  have hm : t ∈ Tryd.f3.params.toList := by simpa using Array.mem_of_getElem? ht
  have hall : (Tryd.f3.params.toList.all fun u => !Tryd.prog.wantsStandIn u) = true := by kernel_rfl
  exact (show Tryd.prog.wantsStandIn t = false by simpa using List.all_eq_true.1 hall t hm)

theorem card : Rows.ImageWorstCardSaid :=
  Claim7.holds_tied_plain_at .later [] _ _ _ _ said (fun _ h => by cases h) (by kernel_rfl) (fun _ h => by cases h) imageWorst_row_tie rfl ⟨rfl, rfl⟩ (by kernel_rfl) rfl plain (by kernel_rfl)
#print axioms card
end Go.Proofs.YtialnndpckcgbaaDoor.imageWorst
