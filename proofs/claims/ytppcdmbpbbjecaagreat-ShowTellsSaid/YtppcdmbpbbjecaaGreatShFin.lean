/- Shows: requests that wait, Of, what is too great, New, point, what wakes holds, equality, arguments, the plain laws. Nothing that was there is turned. -/
import Derived.Test.YtppcdmbpbbjecaaGreatAspFin
import Derived.Test.YtppcdmbpbbjecaaGreatShS
import Derived.Deep.CutRange
import Derived.Test.YtppcdmbpbbjecaaGreatShA
import Derived.DeepKeys
import Derived.Test.YtppcdmbpbbjecaaGreatAspL
import Derived.Test.YtppcdmbpbbjecaaGreatShG
namespace Go.Proofs.YtppcdmbpbbjecaaGreat
open List renaming getElem_toArray → zA, getElem_cons_succ → zS, getElem_cons_zero → zZ, setIfInBounds_toArray → zP, set_cons_zero → zQ, set_cons_succ → zR
open Go.RowKit Rf Mem Bv AM SM
attribute [local go_sem ↓] run_max2 run_min2
attribute [local go_sem] Oper.semAt_some
/-- requests: of each its signal, and how many vias it has -/
structure RqsAt (W : World) (v : Value) (rss : List (List Value)) (rq : List (Int × Nat)) : Prop where
  len : rss.length = rq.length
  all : ∀ cs ∈ rss, cs.length = 3
  one : ∀ cs ∈ rss, ∀ u ∈ cs, u.oneCell' = true
  sl : SliceAt W 3 v rss.length (rss.flatMap id)
  sg : ∀ (i : Nat) (cs : List Value) (r : Int × Nat), rss[i]? = some cs → rq[i]? = some r → cs[0]? = some (.int .i64 r.1) ∧ ∃ A c, cs[2]? = some (.slice A r.2 c)
theorem RqsAt.later {W W' : World} {v : Value} {rss : List (List Value)} {rq : List (Int × Nat)} (q : RqsAt W v rss rq) (b : Below W.heap.size W W') : RqsAt W' v rss rq := ⟨q.len, q.all, q.one, q.sl.later b, q.sg⟩
theorem RqsAt.row {W : World} {v : Value} {rss : List (List Value)} {rq : List (Int × Nat)} (h : RqsAt W v rss rq) {k : Nat} {cs : List Value} (hk : rss[k]? = some cs) :
    ∃ b off c, v = .slice (some ⟨b, off, none⟩) rss.length c ∧ W.rangeAt b (off + k * 3) cs := by
  have hlt := (List.getElem?_eq_some_iff.1 hk).1
  obtain ⟨b, off, c, rfl, _, _, _, hc⟩ := h.sl.pos (by omega)
  refine ⟨b, off, c, rfl, fun j u hj => ?_⟩
  have hj3 : j < 3 := by have := (List.getElem?_eq_some_iff.1 hj).1; rwa [h.all _ (List.mem_of_getElem? hk)] at this
  rw [Nat.add_assoc]
  refine hc _ _ ?_
  rw [show rss.flatMap id = rss.flatMap (fun a => a) from rfl, flatMap_get (sz := 3) (fun a ha => h.all a ha) k j hj3, hk]; exact hj
/-- what is read here of what waits -/
structure NxAt (W : World) (N : List Value) (v : Value) (rss : List (List Value)) (rq : List (Int × Nat)) (ds : Int) (dv : Nat) (au : BitVec 32) (code : Int) : Prop where
  len : N.length = 45
  one : ∀ u ∈ N, u.oneCell' = true
  ds : N[0]? = some (.int .i64 ds)
  dv : ∃ A c, N[1]? = some (.slice A dv c)
  st : N[5]? = some v
  rq : RqsAt W v rss rq
  au : N[6]? = some (.int .u32 au.toNat)
  code : N[44]? = some (.int .u8 code)
theorem NxAt.later {W W' : World} {N : List Value} {v : Value} {rss : List (List Value)} {rq : List (Int × Nat)} {ds : Int} {dv : Nat} {au : BitVec 32} {code : Int} (q : NxAt W N v rss rq ds dv au code) (b : Below W.heap.size W W') : NxAt W' N v rss rq ds dv au code :=
  ⟨q.len, q.one, q.ds, q.dv, q.st, q.rq.later b, q.au, q.code⟩
theorem rq_size {cs : List Value} (h : cs.length = 3) : (Tryz.prog.info? 47).map (·.size) = some cs.length := by rw [h]; kernel_rfl
theorem nx_size {cs : List Value} (h : cs.length = 45) : (Tryz.prog.info? 50).map (·.size) = some cs.length := by rw [h]; kernel_rfl
set_option maxHeartbeats 1000000 in
set_option maxRecDepth 100000 in
theorem waits1_c (cs : List Value) (z p : Int) (gp : Nat) (r : Bool) (w : World) (hr : r = (z == p)) (h0 : cs[0]? = some (.int .i64 z)) (hp : w.heap[gp]? = some (.cells #[.int .i64 p] 3 (0, 0))) :
    Calls Tryz.prog 48 #[.agg cs.toArray, .pointer (some ⟨gp, 0, none⟩)] w fun e w' => e = .returned (.bool r) ∧ Below w.heap.size w w' := by
  have b0 := below_new w (.cells cs.toArray 47)
  have G := new_at (w := w) rfl (.cells cs.toArray 47)
  have x0 := cell_at (old_at hp (.cells cs.toArray 47)) 0
  have x1 := cell_list G h0
  have HR := Lib.hid hr
  clear hr h0
  go_enter Tryz.func48, Tryz.ntmps48
  go_upto_region 1 with (fail)
  generalize w.alloc (.cells cs.toArray 47) = W0 at *
  go_wp2
  go_ret
  exact ⟨by rw [HR.out]; rfl, b0⟩
set_option maxHeartbeats 1000000 in
set_option maxRecDepth 100000 in
theorem index_waits (v : Value) (rss : List (List Value)) (rq : List (Int × Nat)) (gp : Nat) (p : Int) (w : World) (hK : RqsAt w v rss rq) (hlen : rq.length ≤ 5864062014700) (hp : w.heap[gp]? = some (.cells #[.int .i64 p] 3 (0, 0))) :
    Calls Tryz.prog 81 #[v, .func (.func 48) #[] #[.pointer (some ⟨gp, 0, none⟩)]] w fun e w' => Below w.heap.size w w' ∧ ∃ z : Int, e = .returned (.int .i64 z) ∧ decide (0 ≤ z) = rq.any (fun r => r.1 == p) := by
  obtain ⟨A, c, rfl, _⟩ := hK.sl.form
  have hll := hK.len
  obtain ⟨n, hn⟩ : ∃ n, rss.length = n := ⟨_, rfl⟩
  have HN0 := Lib.hid hn
  have hn1 : n ≤ 5864062014700 := by omega
  have HK := Lib.hid hK
  have HP := Lib.hid hp
  rw [hn]
  clear hK hp
  go_enter Tryz.func81, Tryz.ntmps81
  go_wp2
  go_loopw [8] (fun i wr => ∃ j : Nat, j ≤ n ∧ i = .int .i64 j ∧ Below w.heap.size w wr ∧ Hid ((rq.take j).any (fun r => r.1 == p) = false)) (fun i _ => n - (intOf i).toNat)
  case atStart => exact ⟨0, Nat.zero_le _, rfl, Below.refl _ _, Lib.hid rfl⟩
  case round =>
    obtain ⟨k, hk, rfl, B, HF⟩ := hrel
    by_cases hlt : k < n
    · obtain ⟨cs, hcs⟩ : ∃ s, rss[k]? = some s := ⟨_, List.getElem?_eq_getElem (by omega)⟩
      obtain ⟨q, hq⟩ : ∃ s, rq[k]? = some s := ⟨_, List.getElem?_eq_getElem (by omega)⟩
      have hKr := HK.out.later B
      obtain ⟨b, off, c', hv, hr⟩ := hKr.row hcs
      have hHq := (hKr.sg k cs q hcs hq).1
      obtain ⟨rfl, hd0, rfl⟩ := Value.slice.inj hv
      clear hd0
      have szS := rq_size (hKr.all _ (List.mem_of_getElem? hcs))
      have i1 : (k : Int) < (n : Int) := by omega
      obtain ⟨r, hr0⟩ : ∃ r, (q.1 == p) = r := ⟨_, rfl⟩
      have HR := Lib.hid hr0
      have HQ := Lib.hid (List.mem_of_getElem? hq)
      have HX : Hid ((rq.take (k + 1)).any (fun r => r.1 == p) = ((rq.take k).any (fun r => r.1 == p) || r)) := Lib.hid (by rw [List.take_add_one, hq, List.any_append, ← hr0]; simp)
      have HH := Lib.hid hHq
      clear hcs hq hv hr0 hHq hKr
      go_wp2_with (first
        | refine wpList_load_g (by rfl) 47 (.tmp 14) (by rfl) b (off + k * 3) (by rfl) cs _ hr Tryz.underlying47 rfl szS ?_
        | fail)
      refine (waits1_c cs q.1 p gp r _ HR.out.symm HH.out (var_later HP.out B)).mono ?_
      rintro e W1 ⟨rfl, b1⟩
      have B1 := below_step B b1
      clear hr B b1
      cases r
      · go_wp2
        go_roundw
        case rel => exact ⟨k + 1, by omega, by go_num, B1, Lib.hid (by rw [HX.out, HF.out]; rfl)⟩
        case measure => simp [intOf]; omega
      · go_wp2
        go_ret
        exact ⟨B1, _, rfl, by rw [decide_eq_true (by omega)]; exact (List.any_eq_true.2 ⟨q, HQ.out, HR.out⟩).symm⟩
    · obtain rfl : k = n := by omega
      have hfin : rq.any (fun r => r.1 == p) = false := by have h := HF.out; rwa [List.take_of_length_le (by omega)] at h
      have HFIN := Lib.hid hfin
      clear hfin
      go_wp2
      go_ret
      exact ⟨B, _, rfl, by rw [HFIN.out]; rfl⟩
theorem contains_waits (v : Value) (rss : List (List Value)) (rq : List (Int × Nat)) (gp : Nat) (p : Int) (r : Bool) (w : World) (hr : r = rq.any (fun r => r.1 == p)) (hK : RqsAt w v rss rq) (hlen : rq.length ≤ 5864062014700) (hp : w.heap[gp]? = some (.cells #[.int .i64 p] 3 (0, 0))) :
    Calls Tryz.prog 49 #[v, .func (.func 48) #[] #[.pointer (some ⟨gp, 0, none⟩)]] w fun e w' => e = .returned (.bool r) ∧ Below w.heap.size w w' := by
  obtain ⟨A, c, rfl, _⟩ := hK.sl.form
  have HR := Lib.hid hr
  clear hr
  go_enter Tryz.func49, Tryz.ntmps49
  go_wp2_with fail
  refine (index_waits _ rss rq gp p w hK hlen hp).mono ?_
  rintro e W1 ⟨b1, z, rfl, hz⟩
  rw [← HR.out] at hz
  go_wp2
  go_ret
  exact ⟨rfl, b1⟩
set_option maxHeartbeats 1000000 in
set_option maxRecDepth 100000 in
theorem so_flash (N : List Value) (v : Value) (rss : List (List Value)) (rq : List (Int × Nat)) (ds : Int) (dv : Nat) (au : BitVec 32) (code : Int) (gn n : Nat) (w : World) (hN : NxAt w N v rss rq ds dv au code) (hlen : rq.length ≤ 5864062014700) (V : w.heap[gn]? = some (.cells N.toArray 50 (0, 0))) :
    SoAt 47 #[.pointer (some ⟨gn, 0, none⟩)] (fun i => ds == (i : Int) || rq.any fun r => r.1 == (i : Int)) n w := by
  refine ⟨enters Tryz.func47 (by kernel_rfl) rfl, fun i W hi B => ?_⟩
  have b0 := below_new W (.cells #[.int .i64 (i : Int)] 3)
  replace V := var_later (var_later V (B.mono (Nat.le_refl _))) b0
  replace hN := (hN.later (B.mono (Nat.le_refl _))).later b0
  show Calls _ _ #[.int .i64 (i : Int), .pointer (some ⟨gn, 0, none⟩)] W _
  have x0 := cell_list V hN.ds
  have x5 := cell_list V hN.st
  obtain ⟨Ah, ch, rfl, _⟩ := hN.rq.sl.form
  have G := new_at (w := W) rfl (.cells #[.int .i64 (i : Int)] 3)
  have y0 := cell_at G 0
  obtain ⟨r, hr⟩ : ∃ r, (rq.any fun r => r.1 == (i : Int)) = r := ⟨_, rfl⟩
  obtain ⟨d, hd⟩ : ∃ d, (ds == (i : Int)) = d := ⟨_, rfl⟩
  rw [hr, hd]
  have HR := Lib.hid hr
  have HN := Lib.hid hN
  have HG := Lib.hid G
  clear hN hr B G V
  go_enter Tryz.func47, Tryz.ntmps47
  go_upto_region 1 with (fail)
  generalize W.alloc (.cells #[.int .i64 (i : Int)] 3) = W0 at *
  cases d
  · go_wp2_with fail
    refine (contains_waits _ rss rq _ i r W0 HR.out.symm HN.out.rq hlen HG.out).mono ?_
    rintro e W1 ⟨rfl, b1⟩
    have B1 := below_step b0 b1
    go_wp2
    go_ret
    exact ⟨rfl, B1⟩
  · go_wp2
    go_ret
    exact ⟨rfl, b0⟩
end Go.Proofs.YtppcdmbpbbjecaaGreat
namespace Go.Proofs.YtppcdmbpbbjecaaGreat
open List renaming getElem_toArray → zA, getElem_cons_succ → zS, getElem_cons_zero → zZ, setIfInBounds_toArray → zP, set_cons_zero → zQ, set_cons_succ → zR
open Go.RowKit Rf Mem Bv AM SM
attribute [local go_sem ↓] run_max2 run_min2
attribute [local go_sem] Oper.semAt_some
/-- what is shown -/
def ofM (I : IM) (hs : List HeldM) (rq : List (Int × Nat)) (ds : Int) (au : BitVec 32) (code errs : Int) : ShowM where
  clear := rowN (fun i => !I.occB i) (min I.kinds.length 24)
  held := rowN (fun i => (holderM hs i).isSome) (min I.kinds.length 24)
  normal := rowN (fun i => pointB I.kinds i && I.stand i == 0) (min I.kinds.length 24)
  reverse := rowN (fun i => pointB I.kinds i && I.stand i == 1) (min I.kinds.length 24)
  locked := rowN (fun i => pointB I.kinds i && lockedM hs i) (min I.kinds.length 24)
  off := sigW (clearB I.stand I.occB I.litB) hs &&& rowN (fun _ => true) (min I.nsig 12)
  steady := rowN (fun i => hs.any fun h => h.sig == (i : Int)) (min I.nsig 12)
  flash := rowN (fun i => ds == (i : Int) || rq.any fun r => r.1 == (i : Int)) (min I.nsig 12) &&& ~~~ rowN (fun i => hs.any fun h => h.sig == (i : Int)) (min I.nsig 12)
  autos := au &&& rowN (fun _ => true) (min I.nsig 12)
  code := code
  waiting := rq.length
  errors := errs % 256
theorem of1_c (f : Nat) (caps : Array Value) (Q : Nat → Bool) (m c : Nat) (A : Option Addr) (ga : Nat) (z : BitVec 32) (w : World) (hz : z = rowN Q m) (hm : m ≤ 31) (h : SoAt f caps Q m w) (V : w.heap[ga]? = some (.cells #[.slice A m c] 22 (0, 0))) :
    Calls Tryz.prog 32 #[.func (.func f) #[] caps, .pointer (some ⟨ga, 0, none⟩)] w fun e w' => e = .returned (.int .u32 z.toNat) ∧ Below w.heap.size w w' := by
  have x0 := cell_at V 0
  have HZ := Lib.hid hz
  clear hz
  go_enter Tryz.func32, Tryz.ntmps32
  go_wp2_with fail
  refine (row_c f caps Q m w hm h).mono ?_
  rintro e W1 ⟨rfl, b1⟩
  rw [← HZ.out]
  go_wp2
  go_ret
  exact ⟨rfl, b1⟩
/-- Of's world -/
structure OfS (w W : World) (L M Kn N cs : List Value) : Prop where
  bel : Below w.heap.size w W
  v : V2 W w.heap.size (w.heap.size + 1) L M
  k : W.heap[w.heap.size + 1 + 1]? = some (.cells Kn.toArray 41 (0, 0))
  n : W.heap[w.heap.size + 1 + 1 + 1]? = some (.cells N.toArray 50 (0, 0))
  s : W.heap[w.heap.size + 1 + 1 + 1 + 1]? = some (.cells cs.toArray 52 (0, 0))
theorem OfS.later {w W W' : World} {L M Kn N cs : List Value} (h : OfS w W L M Kn N cs) (b : Below W.heap.size W W') : OfS w W' L M Kn N cs := ⟨below_step h.bel b, h.v.later b, var_later h.k b, var_later h.n b, var_later h.s b⟩
theorem OfS.set {w W : World} {L M Kn N cs : List Value} (h : OfS w W L M Kn N cs) (o : Nat) (u : Value) : OfS w (W.setCell ⟨w.heap.size + 1 + 1 + 1 + 1, o, none⟩ u) L M Kn N (cs.set o u) :=
  ⟨below_set h.bel (by omega) _ _, ⟨set_far h.v.l (by simp only; omega) _, set_far h.v.m (by simp only; omega) _⟩, set_far h.k (by simp only; omega) _, set_far h.n (by simp only; omega) _, by rw [set_at h.s o, List.setIfInBounds_toArray]⟩
theorem OfS.setV {w W : World} {L M Kn N cs : List Value} (h : OfS w W L M Kn N cs) {ga gp m c : Nat} {A : Option Addr} (V : OfV W w.heap.size (w.heap.size + 1) (w.heap.size + 1 + 1) ga gp L M Kn A m c) (o : Nat) (u : Value) :
    OfV (W.setCell ⟨w.heap.size + 1 + 1 + 1 + 1, o, none⟩ u) w.heap.size (w.heap.size + 1) (w.heap.size + 1 + 1) ga gp L M Kn A m c := by
  have ha : ga ≠ w.heap.size + 1 + 1 + 1 + 1 := fun e => by have := V.a; rw [e, h.s] at this; cases this
  have hp : gp ≠ w.heap.size + 1 + 1 + 1 + 1 := fun e => by have := V.p; rw [e, h.s] at this; cases this
  exact ⟨(h.set o u).v, (h.set o u).k, set_far V.a ha _, set_far V.p hp _⟩
set_option maxHeartbeats 4000000 in
set_option maxRecDepth 100000 in
theorem Of_c (I : IM) (L M Kn N : List Value) (ss : List (List Value)) (vh : Value) (css : List (List Value)) (hs : List HeldM) (nx : Int) (ms : List (Int × Int × Bool)) (v : Value) (rss : List (List Value)) (rq : List (Int × Nat)) (ds : Int) (dv : Nat) (au : BitVec 32) (code errs : Int) (w : World)
    (hL : LY w L I.kinds ss I.nsig I.clr I.st I.A I.c I.A1 I.c1) (hA : IMA I L M w) (hK : KerAt w Kn vh css hs nx ms) (hlen : hs.length ≤ 5864062014700) (hsm : Few hs) (hN : NxAt w N v rss rq ds dv au code) (hrq : rq.length ≤ 5864062014700) :
    Calls Tryz.prog 10 #[.agg L.toArray, .agg M.toArray, .agg Kn.toArray, .agg N.toArray, .int .i64 errs, .bool false] w fun e w' => e = .returned (.agg (showL (ofM I hs rq ds au code errs)).toArray) ∧ Below w.heap.size w w' := by
  have szL := lay_size hL.f.len
  have szM := img_size hA.f.m.len
  have szK : (Tryz.prog.info? 41).map (·.size) = some Kn.length := by rw [hK.len]; kernel_rfl
  obtain ⟨W0, hW0⟩ : ∃ W0, ((((w.alloc (.cells L.toArray 29)).alloc (.cells M.toArray 35)).alloc (.cells Kn.toArray 41)).alloc (.cells N.toArray 50)).alloc (.cells (showL s0).toArray 52) = W0 := ⟨_, rfl⟩
  have B0 : Below w.heap.size w W0 := by rw [← hW0]; exact below_step (below_step (below_step (below_step (below_new _ _) (below_new _ _)) (below_new _ _)) (below_new _ _)) (below_new _ _)
  have S0 : OfS w W0 L M Kn N (showL s0) := ⟨B0, ⟨by rw [← hW0]; exact old_at (old_at (old_at (old_at (new_at rfl _) _) _) _) _, by rw [← hW0]; exact old_at (old_at (old_at (new_at (by simp) _) _) _) _⟩, by rw [← hW0]; exact old_at (old_at (new_at (by simp) _) _) _, by rw [← hW0]; exact old_at (new_at (by simp) _) _, by rw [← hW0]; exact new_at (by simp) _⟩
  rw [show showL s0 = [.int .u32 0, .int .u32 0, .int .u32 0, .int .u32 0, .int .u32 0, .int .u32 0, .int .u32 0, .int .u32 0, .int .u32 0, .int .u8 0, .int .i64 0, .int .i64 0] from rfl] at hW0
  have HL := Lib.hid hL
  have HA := Lib.hid hA
  have HK := Lib.hid hK
  have HN := Lib.hid hN
  clear hL hA hK hN B0
  go_enter Tryz.func10, Tryz.ntmps10
  go_upto_region 3 with (fail)
  clear hW0
  have RL := range_of S0.v.l
  go_wp2_with (first
    | refine wpList_load_g (by rfl) 29 (.tmp 6) (by rfl) w.heap.size 0 (by rfl) L _ RL Tryz.underlying29 rfl szL ?_
    | fail)
  obtain ⟨m, hm⟩ : ∃ m, m = min I.kinds.length 24 := ⟨_, rfl⟩
  refine (sections_c L I.kinds ss I.nsig I.clr I.st I.A I.c I.A1 I.c1 m _ hm (HL.out.later S0.bel)).mono ?_
  rintro e W1 ⟨rfl, b1⟩
  replace S0 := S0.later b1
  have HM := Lib.hid hm
  have hml : m ≤ I.kinds.length := by omega
  have hm24 : m ≤ 31 := by omega
  clear b1 RL hm
  have bA := below_new W1 (.cells #[.slice I.A m I.c] 22)
  have VA := new_at (w := W1) rfl (.cells #[.slice I.A m I.c] 22)
  replace S0 := S0.later bA
  go_upto_region 5 with (fail)
  generalize W1.alloc (.cells #[.slice I.A m I.c] 22) = W2 at *
  generalize W1.heap.size = ga at *
  have hst := store_one (P := Tryz.prog) (new_at (w := W2) rfl (.cells #[.nilFunc] 105)) (v := .func (.func 34) #[] #[.pointer (some ⟨ga, 0, none⟩)]) rfl
  have bP := below_new W2 (.cells #[.func (.func 34) #[] #[.pointer (some ⟨ga, 0, none⟩)]] 105)
  have VP := new_at (w := W2) rfl (.cells #[.func (.func 34) #[] #[.pointer (some ⟨ga, 0, none⟩)]] 105)
  replace S0 := S0.later bP
  replace VA := var_later VA bP
  go_upto_region 6 with (fail)
  clear hst bA bP
  generalize W2.alloc (.cells #[.func (.func 34) #[] #[.pointer (some ⟨ga, 0, none⟩)]] 105) = W3 at *
  generalize W2.heap.size = gp at *
  have V : OfV W3 w.heap.size (w.heap.size + 1) (w.heap.size + 1 + 1) ga gp L M Kn I.A m I.c := ⟨S0.v, S0.k, VA, VP⟩
  clear VA VP
  have HL0 := Lib.hid (HL.out.later S0.bel)
  have HA0 := Lib.hid (HA.out.later S0.bel)
  have HK0 := Lib.hid (HK.out.later S0.bel)
  obtain ⟨z0, hz0⟩ : ∃ z, z = (ofM I hs rq ds au code errs).clear := ⟨_, rfl⟩
  have HZ0 := Lib.hid hz0
  clear hz0
  go_wp2_with fail
  refine (of1_c 35 #[.pointer (some ⟨w.heap.size, 0, none⟩), .pointer (some ⟨w.heap.size + 1, 0, none⟩)] _ m I.c I.A ga z0 _ (by rw [HZ0.out]; unfold ofM; rw [HM.out]) hm24 (so_clear I L M Kn I.A I.c _ _ _ ga gp m m _ HA0.out.f V) V.a).mono ?_
  rintro e W4 ⟨rfl, b4⟩
  replace S0 := S0.later b4
  replace V := V.later b4
  have x0 := cell_list S0.s (i := 0) rfl
  have f0 := free_at S0.s 0
  clear b4 HL0 HA0 HK0
  go_upto_region 7 with (fail)
  replace V := S0.setV V 0 (.int .u32 z0.toNat)
  replace S0 := S0.set 0 (.int .u32 z0.toNat)
  clear x0 f0
  generalize World.setCell _ _ _ = W3 at *
  have HL0 := Lib.hid (HL.out.later S0.bel)
  have HA0 := Lib.hid (HA.out.later S0.bel)
  have HK0 := Lib.hid (HK.out.later S0.bel)
  obtain ⟨z1, hz1⟩ : ∃ z, z = (ofM I hs rq ds au code errs).held := ⟨_, rfl⟩
  have HZ1 := Lib.hid hz1
  clear hz1
  go_wp2_with fail
  refine (of1_c 37 #[.pointer (some ⟨w.heap.size + 1 + 1, 0, none⟩)] _ m I.c I.A ga z1 _ (by rw [HZ1.out]; unfold ofM; rw [HM.out]) hm24 (so_held L M Kn vh css hs nx ms I.A I.c _ _ _ ga gp m m _ HK0.out hlen hsm V) V.a).mono ?_
  rintro e W4 ⟨rfl, b4⟩
  replace S0 := S0.later b4
  replace V := V.later b4
  have x0 := cell_list S0.s (i := 1) rfl
  have f0 := free_at S0.s 1
  clear b4 HL0 HA0 HK0
  go_upto_region 8 with (fail)
  replace V := S0.setV V 1 (.int .u32 z1.toNat)
  replace S0 := S0.set 1 (.int .u32 z1.toNat)
  clear x0 f0
  generalize World.setCell _ _ _ = W3 at *
  have HL0 := Lib.hid (HL.out.later S0.bel)
  have HA0 := Lib.hid (HA.out.later S0.bel)
  have HK0 := Lib.hid (HK.out.later S0.bel)
  obtain ⟨z2, hz2⟩ : ∃ z, z = (ofM I hs rq ds au code errs).normal := ⟨_, rfl⟩
  have HZ2 := Lib.hid hz2
  clear hz2
  go_wp2_with fail
  refine (of1_c 39 #[.pointer (some ⟨gp, 0, none⟩), .pointer (some ⟨w.heap.size, 0, none⟩), .pointer (some ⟨w.heap.size + 1, 0, none⟩)] _ m I.c I.A ga z2 _ (by rw [HZ2.out]; unfold ofM; rw [HM.out]) hm24 (so_normal I L M Kn I.kinds ss I.nsig I.clr I.st I.A I.c I.A1 I.c1 _ _ _ ga gp m _ hml HL0.out HA0.out V) V.a).mono ?_
  rintro e W4 ⟨rfl, b4⟩
  replace S0 := S0.later b4
  replace V := V.later b4
  have x0 := cell_list S0.s (i := 2) rfl
  have f0 := free_at S0.s 2
  clear b4 HL0 HA0 HK0
  go_upto_region 9 with (fail)
  replace V := S0.setV V 2 (.int .u32 z2.toNat)
  replace S0 := S0.set 2 (.int .u32 z2.toNat)
  clear x0 f0
  generalize World.setCell _ _ _ = W3 at *
  have HL0 := Lib.hid (HL.out.later S0.bel)
  have HA0 := Lib.hid (HA.out.later S0.bel)
  have HK0 := Lib.hid (HK.out.later S0.bel)
  obtain ⟨z3, hz3⟩ : ∃ z, z = (ofM I hs rq ds au code errs).reverse := ⟨_, rfl⟩
  have HZ3 := Lib.hid hz3
  clear hz3
  go_wp2_with fail
  refine (of1_c 41 #[.pointer (some ⟨gp, 0, none⟩), .pointer (some ⟨w.heap.size, 0, none⟩), .pointer (some ⟨w.heap.size + 1, 0, none⟩)] _ m I.c I.A ga z3 _ (by rw [HZ3.out]; unfold ofM; rw [HM.out]) hm24 (so_reverse I L M Kn I.kinds ss I.nsig I.clr I.st I.A I.c I.A1 I.c1 _ _ _ ga gp m _ hml HL0.out HA0.out V) V.a).mono ?_
  rintro e W4 ⟨rfl, b4⟩
  replace S0 := S0.later b4
  replace V := V.later b4
  have x0 := cell_list S0.s (i := 3) rfl
  have f0 := free_at S0.s 3
  clear b4 HL0 HA0 HK0
  go_upto_region 10 with (fail)
  replace V := S0.setV V 3 (.int .u32 z3.toNat)
  replace S0 := S0.set 3 (.int .u32 z3.toNat)
  clear x0 f0
  generalize World.setCell _ _ _ = W3 at *
  have HL0 := Lib.hid (HL.out.later S0.bel)
  have HA0 := Lib.hid (HA.out.later S0.bel)
  have HK0 := Lib.hid (HK.out.later S0.bel)
  obtain ⟨z4, hz4⟩ : ∃ z, z = (ofM I hs rq ds au code errs).locked := ⟨_, rfl⟩
  have HZ4 := Lib.hid hz4
  clear hz4
  go_wp2_with fail
  refine (of1_c 42 #[.pointer (some ⟨gp, 0, none⟩), .pointer (some ⟨w.heap.size + 1 + 1, 0, none⟩)] _ m I.c I.A ga z4 _ (by rw [HZ4.out]; unfold ofM; rw [HM.out]) hm24 (so_locked L M Kn vh css hs nx ms I.kinds ss I.nsig I.clr I.st I.A I.c I.A1 I.c1 _ _ _ ga gp m _ hml HL0.out HK0.out hlen hsm V) V.a).mono ?_
  rintro e W4 ⟨rfl, b4⟩
  replace S0 := S0.later b4
  replace V := V.later b4
  have x0 := cell_list S0.s (i := 4) rfl
  have f0 := free_at S0.s 4
  clear b4 HL0 HA0 HK0
  go_upto_region 11 with (fail)
  replace V := S0.setV V 4 (.int .u32 z4.toNat)
  replace S0 := S0.set 4 (.int .u32 z4.toNat)
  clear x0 f0
  generalize World.setCell _ _ _ = W3 at *
  obtain ⟨m2, hm2⟩ : ∃ m2, m2 = min I.nsig 12 := ⟨_, rfl⟩
  have HM2 := Lib.hid hm2
  have hm12 : m2 ≤ 31 := by omega
  clear hm2
  have RL := range_of S0.v.l
  go_wp2_with (first
    | refine wpList_load_g (by rfl) 29 (.tmp 6) (by rfl) w.heap.size 0 (by rfl) L _ RL Tryz.underlying29 rfl szL ?_
    | fail)
  refine (signals_c L I.kinds I.nsig I.clr I.st I.A I.c I.A1 I.c1 m2 _ HM2.out (HL.out.later S0.bel).f).mono ?_
  rintro e W4 ⟨rfl, b4⟩
  replace S0 := S0.later b4
  replace V := V.later b4
  have HK0 := Lib.hid (HK.out.later S0.bel)
  clear b4 RL
  obtain ⟨z6, hz6⟩ : ∃ z, z = rowN (fun i => hs.any fun h => h.sig == (i : Int)) m2 := ⟨_, rfl⟩
  have HZ6 := Lib.hid hz6
  clear hz6
  go_wp2_with fail
  refine (row_c 44 #[.pointer (some ⟨w.heap.size + 1 + 1, 0, none⟩)] (fun i => hs.any fun h => h.sig == (i : Int)) m2 _ hm12 (so_steady L M Kn vh css hs nx ms I.A I.c _ _ _ ga gp m m2 _ HK0.out hlen hsm V)).mono ?_
  rintro e W5 ⟨rfl, b5⟩
  rw [← HZ6.out]
  replace S0 := S0.later b5
  replace V := V.later b5
  have x0 := cell_list S0.s (i := 6) rfl
  have f0 := free_at S0.s 6
  clear b5 HK0
  go_upto_region 12 with (fail)
  replace V := S0.setV V 6 (.int .u32 z6.toNat)
  replace S0 := S0.set 6 (.int .u32 z6.toNat)
  clear x0 f0
  generalize World.setCell _ _ _ = W3 at *
  -- flash
  obtain ⟨z7, hz7⟩ : ∃ z, z = rowN (fun i => ds == (i : Int) || rq.any fun r => r.1 == (i : Int)) m2 := ⟨_, rfl⟩
  have HZ7 := Lib.hid hz7
  have han : Go.bits .andNot .u32 (z7.toNat : Int) (z6.toNat : Int) = ((z7 &&& ~~~ z6).toNat : Int) := Bv.bits_andNot .u32 rfl z7 z6
  obtain ⟨zf, hzf⟩ : ∃ z, z = z7 &&& ~~~ z6 := ⟨_, rfl⟩
  rw [← hzf] at han
  have HZF := Lib.hid hzf
  clear hz7 hzf
  replace S0 := S0.later (Below.refl _ W3).drew
  replace V := V.later (Below.refl _ W3).drew
  refine wp_region_held_drew (S := (fun w' => w'.rangeAt w.heap.size 0 L ∧ w'.cell? ⟨w.heap.size + 1 + 1 + 1 + 1, 6, none⟩ = some (.int .u32 z6.toNat))) (by kernel_rfl) ?_ (fun hHeld => ?_)
  · exact ⟨range_of S0.v.l, cell_list S0.s rfl⟩
  generalize W3.drew = X at *
  refine wpAnyH_take (i := 0) (v := .agg (L : List Value).toArray) rfl (by kernel_rfl) (by kernel_rfl) (by kernel_rfl) (fun _ _ _ h => h) (yieldsIf_load_mid (by kernel_rfl) 29 (.tmp 6) (by kernel_rfl) (w.heap.size) 0 (by kernel_rfl) L _ (fun w' h => h.1) (by first | exact Tryz.underlying29) rfl (by first | assumption | (simp only [*]; kernel_rfl))) (by assumption) ?_
  try simp only [zA, zS, zZ, Act.put, zP, zQ, zR]
  refine Node.tk 2 ?_ rfl ?_ ?_
  rotate_left
  · intro w hSw; (try dsimp only at hSw); go_simp; try with_reducible rfl
  simp only [zA, zS, zZ, Act.put, zP, zQ, zR]
  refine Node.tk 4 ?_ rfl ?_ ?_
  rotate_left
  · intro w hSw; (try dsimp only at hSw); go_simp; try with_reducible rfl
  simp only [zA, zS, zZ, Act.put, zP, zQ, zR]
  refine Node.tk 5 ?_ rfl ?_ ?_
  rotate_left
  · intro w hSw; (try dsimp only at hSw); go_simp; try with_reducible rfl
  simp only [zA, zS, zZ, Act.put, zP, zQ, zR]
  refine Node.on 1 rfl (fun K hK => ?_)
  go_simp
  refine (signals_c L I.kinds I.nsig I.clr I.st I.A I.c I.A1 I.c1 m2 _ HM2.out (HL.out.later S0.bel).f).mono ?_
  rintro e X1 ⟨rfl, b1⟩
  refine hK.out _ _ ?_ (fun hHeld => ?_)
  · exact ⟨range_of (S0.later b1).v.l, cell_list (S0.later b1).s rfl⟩
  clear hK K
  try simp only [zA, zS, zZ, Act.put, zP, zQ, zR]
  replace S0 := S0.later b1
  replace V := V.later b1
  clear b1
  refine Node.on 3 rfl (fun K hK => ?_)
  go_simp
  refine (row_c 47 #[.pointer (some ⟨w.heap.size + 1 + 1 + 1, 0, none⟩)] (fun i => ds == (i : Int) || rq.any fun r => r.1 == (i : Int)) m2 _ hm12 (so_flash N v rss rq ds dv au code _ m2 _ (HN.out.later S0.bel) hrq S0.n)).mono ?_
  rintro e X2 ⟨rfl, b1⟩
  refine hK.out _ _ ?_ (fun hHeld => ?_)
  · exact ⟨range_of (S0.later b1).v.l, cell_list (S0.later b1).s rfl⟩
  clear hK K
  rw [← HZ7.out]
  try simp only [zA, zS, zZ, Act.put, zP, zQ, zR]
  replace S0 := S0.later b1
  replace V := V.later b1
  clear b1
  refine Node.tk 6 ?_ rfl ?_ ?_
  rotate_left
  · intro w hSw; (try dsimp only at hSw); go_simp; try with_reducible rfl
  simp only [zA, zS, zZ, Act.put, zP, zQ, zR]
  refine Node.tk 7 ?_ rfl ?_ ?_
  rotate_left
  · intro w hSw; (try dsimp only at hSw); go_simp; try with_reducible rfl
  simp only [zA, zS, zZ, Act.put, zP, zQ, zR]
  have x0 := cell_list S0.s (i := 7) rfl
  have f0 := free_at S0.s 7
  refine Node.on 8 rfl (fun K hK => ?_)
  go_simp
  refine hK.out _ _ ⟨range_of (S0.set 7 (.int .u32 zf.toNat)).v.l, cell_list (S0.set 7 (.int .u32 zf.toNat)).s rfl⟩ (fun hHeld => ?_)
  clear hK K x0 f0
  try simp only [zA, zS, zZ, Act.put, zP, zQ, zR]
  replace V := S0.setV V 7 (.int .u32 zf.toNat)
  replace S0 := S0.set 7 (.int .u32 zf.toNat)
  generalize World.setCell _ _ _ = X at *
  clear hHeld han
  refine wpAnyH_done (by kernel_rfl) ?_ _
  -- known
  obtain ⟨z9, hz9⟩ : ∃ z, z = rowN (fun _ => true) m2 := ⟨_, rfl⟩
  have HZ9 := Lib.hid hz9
  clear hz9
  have RL := range_of S0.v.l
  go_wp2_with (first
    | refine wpList_load_g (by rfl) 29 (.tmp 6) (by rfl) w.heap.size 0 (by rfl) L _ RL Tryz.underlying29 rfl szL ?_
    | fail)
  refine (signals_c L I.kinds I.nsig I.clr I.st I.A I.c I.A1 I.c1 m2 _ HM2.out (HL.out.later S0.bel).f).mono ?_
  rintro e W4 ⟨rfl, b4⟩
  replace S0 := S0.later b4
  replace V := V.later b4
  clear b4 RL
  go_wp2_with fail
  refine (row_c 50 #[] (fun _ => true) m2 _ hm12 (so_all m2 _)).mono ?_
  rintro e W5 ⟨rfl, b5⟩
  rw [← HZ9.out]
  replace S0 := S0.later b5
  replace V := V.later b5
  clear b5
  go_upto_region 14 with (fail)
  clear V
  obtain ⟨zs, hzs⟩ : ∃ z, z = sigW (clearB I.stand I.occB I.litB) hs := ⟨_, rfl⟩
  have HZS := Lib.hid hzs
  obtain ⟨zo, hzo⟩ : ∃ z, z = zs &&& z9 := ⟨_, rfl⟩
  obtain ⟨za, hza⟩ : ∃ z, z = au &&& z9 := ⟨_, rfl⟩
  have hn1 : Go.bits .and .u32 (zs.toNat : Int) (z9.toNat : Int) = (zo.toNat : Int) := by rw [hzo]; exact Bv.bits_and .u32 rfl zs z9
  have hn2 : Go.bits .and .u32 (au.toNat : Int) (z9.toNat : Int) = (za.toNat : Int) := by rw [hza]; exact Bv.bits_and .u32 rfl au z9
  have HZO := Lib.hid hzo
  have HZA := Lib.hid hza
  have HNA := Lib.hid HN.out.au
  clear hzs hzo hza
  replace S0 := S0.later (Below.refl _ W5).drew
  refine wp_region_held_drew (S := (fun w' => w'.rangeAt w.heap.size 0 L ∧ w'.rangeAt (w.heap.size + 1) 0 M ∧ w'.rangeAt (w.heap.size + 1 + 1) 0 Kn ∧ w'.cell? ⟨w.heap.size + 1 + 1 + 1, 6, none⟩ = some (.int .u32 au.toNat))) (by kernel_rfl) ?_ (fun hHeld => ?_)
  · exact ⟨range_of S0.v.l, range_of S0.v.m, range_of S0.k, cell_list S0.n HNA.out⟩
  generalize W5.drew = X at *
  refine wpAnyH_take (i := 0) (v := .agg (L : List Value).toArray) rfl (by kernel_rfl) (by kernel_rfl) (by kernel_rfl) (fun _ _ _ h => h) (yieldsIf_load_mid (by kernel_rfl) 29 (.tmp 6) (by kernel_rfl) (w.heap.size) 0 (by kernel_rfl) L _ (fun w' h => h.1) (by first | exact Tryz.underlying29) rfl (by first | assumption | (simp only [*]; kernel_rfl))) (by assumption) ?_
  try simp only [zA, zS, zZ, Act.put, zP, zQ, zR]
  refine wpAnyH_take (i := 1) (v := .agg (M : List Value).toArray) rfl (by kernel_rfl) (by kernel_rfl) (by kernel_rfl) (fun _ _ _ h => h) (yieldsIf_load_mid (by kernel_rfl) 35 (.tmp 7) (by kernel_rfl) (w.heap.size + 1) 0 (by kernel_rfl) M _ (fun w' h => h.2.1) (by first | exact Tryz.underlying35) rfl (by first | assumption | (simp only [*]; kernel_rfl))) (by assumption) ?_
  try simp only [zA, zS, zZ, Act.put, zP, zQ, zR]
  refine wpAnyH_take (i := 2) (v := .agg (Kn : List Value).toArray) rfl (by kernel_rfl) (by kernel_rfl) (by kernel_rfl) (fun _ _ _ h => h) (yieldsIf_load_mid (by kernel_rfl) 41 (.tmp 8) (by kernel_rfl) (w.heap.size + 1 + 1) 0 (by kernel_rfl) Kn _ (fun w' h => h.2.2.1) (by first | exact Tryz.underlying41) rfl (by first | assumption | (simp only [*]; kernel_rfl))) (by assumption) ?_
  try simp only [zA, zS, zZ, Act.put, zP, zQ, zR]
  refine Node.tk 4 ?_ rfl ?_ ?_
  rotate_left
  · intro w hSw; (try dsimp only at hSw); go_simp; try with_reducible rfl
  simp only [zA, zS, zZ, Act.put, zP, zQ, zR]
  refine Node.tk 6 ?_ rfl ?_ ?_
  rotate_left
  · intro w hSw; (try dsimp only at hSw); go_simp; try with_reducible rfl
  simp only [zA, zS, zZ, Act.put, zP, zQ, zR]
  refine Node.tk 7 ?_ rfl ?_ ?_
  rotate_left
  · intro w hSw; (try dsimp only at hSw); go_simp; try with_reducible rfl
  simp only [zA, zS, zZ, Act.put, zP, zQ, zR]
  refine Node.tk 8 ?_ rfl ?_ ?_
  rotate_left
  · intro w hSw; (try dsimp only at hSw); go_simp; try with_reducible rfl
  simp only [zA, zS, zZ, Act.put, zP, zQ, zR]
  refine Node.tk 9 ?_ rfl ?_ ?_
  rotate_left
  · intro w hSw; (try dsimp only at hSw); go_simp; try with_reducible rfl
  simp only [zA, zS, zZ, Act.put, zP, zQ, zR]
  refine Node.on 3 rfl (fun K hK => ?_)
  go_simp
  refine (Signals_c I Kn L M vh css hs nx ms _ (HA.out.later S0.bel) (HK.out.later S0.bel) hlen hsm).mono ?_
  rintro e X1 ⟨rfl, b1⟩
  refine hK.out _ _ ?_ (fun hHeld => ?_)
  · exact ⟨range_of (S0.later b1).v.l, range_of (S0.later b1).v.m, range_of (S0.later b1).k, cell_list (S0.later b1).n HNA.out⟩
  clear hK K
  rw [← HZS.out]
  try simp only [zA, zS, zZ, Act.put, zP, zQ, zR]
  replace S0 := S0.later b1
  clear b1
  refine Node.tk 5 ?_ rfl ?_ ?_
  rotate_left
  · intro w hSw; (try dsimp only at hSw); go_simp; try with_reducible rfl
  simp only [zA, zS, zZ, Act.put, zP, zQ, zR]
  refine Node.tk 10 ?_ rfl ?_ ?_
  rotate_left
  · intro w hSw; (try dsimp only at hSw); go_simp; try with_reducible rfl
  simp only [zA, zS, zZ, Act.put, zP, zQ, zR]
  have x0 := cell_list S0.s (i := 5) rfl
  have f0 := free_at S0.s 5
  refine Node.on 11 rfl (fun K hK => ?_)
  go_simp
  refine hK.out _ _ ⟨range_of (S0.set 5 (.int .u32 zo.toNat)).v.l, range_of (S0.set 5 (.int .u32 zo.toNat)).v.m, range_of (S0.set 5 (.int .u32 zo.toNat)).k, cell_list (S0.set 5 (.int .u32 zo.toNat)).n HNA.out⟩ (fun hHeld => ?_)
  clear hK K x0 f0
  try simp only [zA, zS, zZ, Act.put, zP, zQ, zR]
  replace S0 := S0.set 5 (.int .u32 zo.toNat)
  generalize World.setCell _ _ _ = X at *
  refine Node.tk 12 ?_ rfl ?_ ?_
  rotate_left
  · intro w hSw; (try dsimp only at hSw); go_simp; try with_reducible rfl
  simp only [zA, zS, zZ, Act.put, zP, zQ, zR]
  have x0 := cell_list S0.s (i := 8) rfl
  have f0 := free_at S0.s 8
  refine Node.on 13 rfl (fun K hK => ?_)
  go_simp
  refine hK.out _ _ ⟨range_of (S0.set 8 (.int .u32 za.toNat)).v.l, range_of (S0.set 8 (.int .u32 za.toNat)).v.m, range_of (S0.set 8 (.int .u32 za.toNat)).k, cell_list (S0.set 8 (.int .u32 za.toNat)).n HNA.out⟩ (fun hHeld => ?_)
  clear hK K x0 f0
  try simp only [zA, zS, zZ, Act.put, zP, zQ, zR]
  replace S0 := S0.set 8 (.int .u32 za.toNat)
  generalize World.setCell _ _ _ = X at *
  clear hHeld hn1 hn2
  refine wpAnyH_done (by kernel_rfl) ?_ _
  -- code, waiting, errors
  obtain ⟨Aw, cw, hvw, hw1, hw2⟩ := HN.out.rq.sl.form
  have HNC := Lib.hid HN.out.code
  have HNS : Hid (N[5]? = some (.slice Aw rss.length cw)) := Lib.hid (by rw [← hvw]; exact HN.out.st)
  obtain ⟨er, her⟩ : ∃ e : Int, errs % 256 = e := ⟨_, rfl⟩
  have hmask := mask255 errs
  rw [her] at hmask
  have HER := Lib.hid her
  have HLEN := Lib.hid HN.out.rq.len
  clear her hvw hw1 hw2
  go_wp2
  replace S0 := S0.later (Below.refl _ X).drew
  refine wp_region_held_drew (S := (fun w' => w'.cell? ⟨w.heap.size + 1 + 1 + 1, 44, none⟩ = some (.int .u8 code) ∧ w'.cell? ⟨w.heap.size + 1 + 1 + 1, 5, none⟩ = some (.slice Aw rss.length cw))) (by kernel_rfl) ?_ (fun hHeld => ?_)
  · exact ⟨cell_list S0.n HNC.out, cell_list S0.n HNS.out⟩
  generalize X.drew = X at *
  refine Node.tk 0 ?_ rfl ?_ ?_
  rotate_left
  · intro w hSw; (try dsimp only at hSw); go_simp; try with_reducible rfl
  simp only [zA, zS, zZ, Act.put, zP, zQ, zR]
  refine Node.tk 1 ?_ rfl ?_ ?_
  rotate_left
  · intro w hSw; (try dsimp only at hSw); go_simp; try with_reducible rfl
  simp only [zA, zS, zZ, Act.put, zP, zQ, zR]
  refine Node.tk 2 ?_ rfl ?_ ?_
  rotate_left
  · intro w hSw; (try dsimp only at hSw); go_simp; try with_reducible rfl
  simp only [zA, zS, zZ, Act.put, zP, zQ, zR]
  refine Node.tk 3 ?_ rfl ?_ ?_
  rotate_left
  · intro w hSw; (try dsimp only at hSw); go_simp; try with_reducible rfl
  simp only [zA, zS, zZ, Act.put, zP, zQ, zR]
  refine Node.tk 4 ?_ rfl ?_ ?_
  rotate_left
  · intro w hSw; (try dsimp only at hSw); go_simp; try with_reducible rfl
  simp only [zA, zS, zZ, Act.put, zP, zQ, zR]
  refine Node.tk 5 ?_ rfl ?_ ?_
  rotate_left
  · intro w hSw; (try dsimp only at hSw); go_simp; try with_reducible rfl
  simp only [zA, zS, zZ, Act.put, zP, zQ, zR]
  refine Node.tk 6 ?_ rfl ?_ ?_
  rotate_left
  · intro w hSw; (try dsimp only at hSw); go_simp; try with_reducible rfl
  simp only [zA, zS, zZ, Act.put, zP, zQ, zR]
  refine Node.tk 7 ?_ rfl ?_ ?_
  rotate_left
  · intro w hSw; (try dsimp only at hSw); go_simp; try with_reducible rfl
  simp only [zA, zS, zZ, Act.put, zP, zQ, zR]
  have x0 := cell_list S0.s (i := 9) rfl
  have f0 := free_at S0.s 9
  refine Node.on 8 rfl (fun K hK => ?_)
  go_simp
  refine hK.out _ _ ⟨cell_list (S0.set 9 (.int .u8 code)).n HNC.out, cell_list (S0.set 9 (.int .u8 code)).n HNS.out⟩ (fun hHeld => ?_)
  clear hK K x0 f0
  try simp only [zA, zS, zZ, Act.put, zP, zQ, zR]
  replace S0 := S0.set 9 (.int .u8 code)
  generalize World.setCell _ _ _ = X at *
  refine Node.tk 9 ?_ rfl ?_ ?_
  rotate_left
  · intro w hSw; (try dsimp only at hSw); go_simp; try with_reducible rfl
  simp only [zA, zS, zZ, Act.put, zP, zQ, zR]
  have x0 := cell_list S0.s (i := 10) rfl
  have f0 := free_at S0.s 10
  refine Node.on 10 rfl (fun K hK => ?_)
  go_simp
  refine hK.out _ _ ⟨cell_list (S0.set 10 (.int .i64 (rss.length : Int))).n HNC.out, cell_list (S0.set 10 (.int .i64 (rss.length : Int))).n HNS.out⟩ (fun hHeld => ?_)
  clear hK K x0 f0
  try simp only [zA, zS, zZ, Act.put, zP, zQ, zR]
  replace S0 := S0.set 10 (.int .i64 (rss.length : Int))
  generalize World.setCell _ _ _ = X at *
  refine Node.tk 11 ?_ rfl ?_ ?_
  rotate_left
  · intro w hSw; (try dsimp only at hSw); go_simp; try with_reducible rfl
  simp only [zA, zS, zZ, Act.put, zP, zQ, zR]
  have x0 := cell_list S0.s (i := 11) rfl
  have f0 := free_at S0.s 11
  refine Node.on 12 rfl (fun K hK => ?_)
  go_simp
  refine hK.out _ _ ⟨cell_list (S0.set 11 (.int .i64 er)).n HNC.out, cell_list (S0.set 11 (.int .i64 er)).n HNS.out⟩ (fun hHeld => ?_)
  clear hK K x0 f0
  try simp only [zA, zS, zZ, Act.put, zP, zQ, zR]
  replace S0 := S0.set 11 (.int .i64 er)
  generalize World.setCell _ _ _ = X at *
  clear hHeld hmask
  refine wpAnyH_done (by kernel_rfl) ?_ _
  have hfin : (((((((((((((showL s0).set 0 (.int .u32 z0.toNat)).set 1 (.int .u32 z1.toNat)).set 2 (.int .u32 z2.toNat)).set 3 (.int .u32 z3.toNat)).set 4 (.int .u32 z4.toNat)).set 6 (.int .u32 z6.toNat)).set 7 (.int .u32 zf.toNat)).set 5 (.int .u32 zo.toNat)).set 8 (.int .u32 za.toNat)).set 9 (.int .u8 code)).set 10 (.int .i64 (rss.length : Int))).set 11 (.int .i64 er)) = showL (ofM I hs rq ds au code errs) := by
    rw [HZ0.out, HZ1.out, HZ2.out, HZ3.out, HZ4.out, HZF.out, HZO.out, HZA.out, HZS.out, HZ9.out, HZ7.out, HZ6.out, HM2.out, HLEN.out, ← HER.out]
    rfl
  rw [hfin] at S0
  clear hfin
  obtain ⟨D, hD⟩ : ∃ D, ofM I hs rq ds au code errs = D := ⟨_, rfl⟩
  rw [hD] at S0
  have HDD := Lib.hid hD
  clear hD
  have RB := range_of S0.s
  have szB := show_size D
  have th := there_of S0.s 0 (showL D).toArray.size (by rw [List.size_toArray]; exact Nat.le_of_eq (Nat.zero_add _))
  have szB2 : (Tryz.prog.info? 52).map (·.size) = some (showL D).toArray.size := by simpa using szB
  have K1 := Lib.hid (And.intro (self_set S0.s) (below_setCells (g := w.heap.size + 1 + 1 + 1 + 1) (by omega) (showL D).toArray.toList 0 S0.bel))
  go_wp2_with (first
    | refine wpList_load_g (by rfl) 52 (.tmp 12) (by rfl) (w.heap.size + 1 + 1 + 1 + 1) 0 (by rfl) (showL D) _ RB Tryz.underlying52 rfl szB ?_
    | (refine wpList_store_mid rfl 52 (.tmp 12) (.tmp 81) (by rfl) (w.heap.size + 1 + 1 + 1 + 1) 0 (showL D).toArray (by rfl) (by rfl) th szB2 (all_one (show_one _)) ?_; generalize hWs : World.setCells _ (w.heap.size + 1 + 1 + 1 + 1) 0 (showL D).toArray.toList = Ws at *)
    | fail)
  refine bodyPost_ret (res_mid (t := 12) Tryz.underlying52 rfl rfl szB rfl K1.out.1) rfl ⟨by rw [HDD.out], K1.out.2⟩
set_option maxHeartbeats 1000000 in
set_option maxRecDepth 100000 in
theorem Of_dead (L M Kn N : List Value) (errs : Int) (w : World) :
    Calls Tryz.prog 10 #[.agg L.toArray, .agg M.toArray, .agg Kn.toArray, .agg N.toArray, .int .i64 errs, .bool true] w fun e w' => e = .returned (.agg (showL s0).toArray) ∧ Below w.heap.size w w' := by
  obtain ⟨W0, hW0⟩ : ∃ W0, ((((w.alloc (.cells L.toArray 29)).alloc (.cells M.toArray 35)).alloc (.cells Kn.toArray 41)).alloc (.cells N.toArray 50)).alloc (.cells (showL s0).toArray 52) = W0 := ⟨_, rfl⟩
  have B0 : Below w.heap.size w W0 := by rw [← hW0]; exact below_step (below_step (below_step (below_step (below_new _ _) (below_new _ _)) (below_new _ _)) (below_new _ _)) (below_new _ _)
  have VS : W0.heap[w.heap.size + 1 + 1 + 1 + 1]? = some (.cells (showL s0).toArray 52 (0, 0)) := by rw [← hW0]; exact new_at (by simp) _
  rw [show showL s0 = [.int .u32 0, .int .u32 0, .int .u32 0, .int .u32 0, .int .u32 0, .int .u32 0, .int .u32 0, .int .u32 0, .int .u32 0, .int .u8 0, .int .i64 0, .int .i64 0] from rfl] at hW0
  have RB := range_of VS
  have szB := show_size s0
  have th := there_of VS 0 (showL s0).toArray.size (by decide)
  have szB2 : (Tryz.prog.info? 52).map (·.size) = some (showL s0).toArray.size := by kernel_rfl
  have K1 := Lib.hid (And.intro (self_set VS) (below_setCells (g := w.heap.size + 1 + 1 + 1 + 1) (by omega) (showL s0).toArray.toList 0 B0))
  go_enter Tryz.func10, Tryz.ntmps10
  go_upto_region 2 with (fail)
  clear hW0
  go_wp2_with (first
    | refine wpList_load_g (by rfl) 52 (.tmp 12) (by rfl) (w.heap.size + 1 + 1 + 1 + 1) 0 (by rfl) (showL s0) _ RB Tryz.underlying52 rfl szB ?_
    | (refine wpList_store_mid rfl 52 (.tmp 12) (.tmp 18) (by rfl) (w.heap.size + 1 + 1 + 1 + 1) 0 (showL s0).toArray (by rfl) (by rfl) th szB2 (all_one (show_one _)) ?_; generalize hWs : World.setCells _ (w.heap.size + 1 + 1 + 1 + 1) 0 (showL s0).toArray.toList = Ws at *)
    | fail)
  exact bodyPost_ret (res_mid (t := 12) Tryz.underlying52 rfl rfl szB rfl K1.out.1) rfl ⟨rfl, K1.out.2⟩
end Go.Proofs.YtppcdmbpbbjecaaGreat
namespace Go.Proofs.YtppcdmbpbbjecaaGreat
open List renaming getElem_toArray → zA, getElem_cons_succ → zS, getElem_cons_zero → zZ, setIfInBounds_toArray → zP, set_cons_zero → zQ, set_cons_succ → zR
open Go.RowKit Rf Mem Bv AM SM
attribute [local go_sem ↓] run_max2 run_min2
attribute [local go_sem] Oper.semAt_some
/-- what follows where it is not too great -/
def GrN (rq : List (Int × Nat)) (r : Bool) : Prop := r = false → rq.length ≤ 20
set_option maxHeartbeats 1000000 in
set_option maxRecDepth 100000 in
theorem great28_c (N : List Value) (v : Value) (rss : List (List Value)) (rq : List (Int × Nat)) (ds : Int) (dv : Nat) (au : BitVec 32) (code : Int) (w : World) (hN : NxAt w N v rss rq ds dv au code) (hdv : dv ≤ 9223372036854775807) (hvs : ∀ r ∈ rq, r.2 ≤ 9223372036854775807) :
    Calls Tryz.prog 6 #[.agg N.toArray] w fun e w' => Below w.heap.size w w' ∧ ∃ r, e = .returned (.bool r) ∧ GrN rq r := by
  have b0 := below_new w (.cells N.toArray 50)
  have G := new_at (w := w) rfl (.cells N.toArray 50)
  obtain ⟨A, c, rfl, hc0, hc1⟩ := hN.rq.sl.form
  obtain ⟨Ad, cd, hNd⟩ := hN.dv
  have hll := hN.rq.len
  obtain ⟨n, hn⟩ : ∃ n, rss.length = n := ⟨_, rfl⟩
  have x1 := cell_list G hNd
  have x5 := cell_list G hN.st
  rw [hn] at x5 hc0 hll
  have hn63 : n ≤ 9223372036854775807 := by omega
  have HN := Lib.hid hN
  have HNN := Lib.hid hn
  have hnr : rq.length = n := by omega
  have HNR := Lib.hid hnr
  clear hN hNd hn hc0 hc1 hll hnr
  go_enter Tryz.func6, Tryz.ntmps6
  go_upto_region 1 with (fail)
  generalize w.alloc (.cells N.toArray 50) = W0 at *
  go_wp2
  go_loopw [3] (fun i wr => ∃ j : Nat, j ≤ n ∧ j ≤ 21 ∧ i = .int .i64 j ∧ wr = W0) (fun i _ => n - (intOf i).toNat)
  case atStart => exact ⟨0, Nat.zero_le _, by omega, rfl, rfl⟩
  case round =>
    obtain ⟨k, hk, hk21, rfl, rfl⟩ := hrel
    by_cases hlt : k < n
    · have i1 : (k : Int) < (n : Int) := by omega
      by_cases h20 : k ≤ 20
      · have i2 : (k : Int) ≤ 20 := by omega
        obtain ⟨cs, hcs⟩ : ∃ s, rss[k]? = some s := ⟨_, List.getElem?_eq_getElem (by have := HNN.out; omega)⟩
        obtain ⟨q, hq⟩ : ∃ s, rq[k]? = some s := ⟨_, List.getElem?_eq_getElem (by have := HNR.out; omega)⟩
        have hKr := HN.out.later b0
        obtain ⟨b, off, c', hv, hr⟩ := hKr.rq.row hcs
        obtain ⟨Aq, cq, h2⟩ := (hKr.rq.sg k cs q hcs hq).2
        obtain ⟨rfl, hd0, rfl⟩ := Value.slice.inj hv
        have y2 := hr 2 _ h2
        have hq2 := hvs q (List.mem_of_getElem? hq)
        generalize q.2 = qv at *
        clear hd0 hv hcs hq hKr hr h2
        by_cases h3 : 20 < qv
        · have i3 : (20 : Int) < (qv : Int) := by omega
          go_wp2
          go_ret
          exact ⟨b0, _, rfl, fun h => by cases h⟩
        · have i3 : decide ((20 : Int) < (qv : Int)) = false := decide_eq_false (by omega)
          have i4 : decide (20 < qv) = false := decide_eq_false (by omega)
          go_wp2
          go_roundw
          case rel => exact ⟨k + 1, by omega, by omega, by go_num, trivial⟩
          case measure => simp [intOf]; omega
      · have i2 : decide ((k : Int) ≤ 20) = false := decide_eq_false (by omega)
        have i3 : decide (k ≤ 20) = false := decide_eq_false h20
        have i4 : (20 : Int) < (n : Int) := by omega
        go_wp2
        go_ret
        exact ⟨b0, _, rfl, fun h => by cases h⟩
    · obtain rfl : k = n := by omega
      have i1 : decide ((k : Int) < (k : Int)) = false := decide_eq_false (by omega)
      by_cases h20 : 20 < k
      · have i4 : (20 : Int) < (k : Int) := by omega
        go_wp2
        go_ret
        exact ⟨b0, _, rfl, fun h => by cases h⟩
      · have i4 : decide ((20 : Int) < (k : Int)) = false := decide_eq_false (by omega)
        have i5 : decide (20 < k) = false := decide_eq_false h20
        go_wp2
        go_ret
        exact ⟨b0, _, rfl, fun _ => by have := HNR.out; omega⟩
end Go.Proofs.YtppcdmbpbbjecaaGreat
namespace Go.Proofs.YtppcdmbpbbjecaaGreat
open List renaming getElem_toArray → zA, getElem_cons_succ → zS, getElem_cons_zero → zZ, setIfInBounds_toArray → zP, set_cons_zero → zQ, set_cons_succ → zR
open Go.RowKit Rf Mem Bv AM SM
attribute [local go_sem ↓] run_max2 run_min2
attribute [local go_sem] Oper.semAt_some
abbrev deskL (z : Int) : List Value := [.int .i64 z, .slice none 0 0, .int .i64 0, .int .u8 0, .int .i64 0]
abbrev zRq : List Value := [.int .i64 0, .int .i64 0, .slice none 0 0]
/-- what waits: the desk's signal, the requests, the bits of those that go by themselves, a code -/
abbrev nxL (z : Int) (v : Value) (code : Int) : List Value := deskL z ++ ([v, .int .u32 0] ++ (zRq ++ (zRq ++ (zRq ++ (zRq ++ (zRq ++ (zRq ++ (zRq ++ (zRq ++ (zRq ++ (zRq ++ (zRq ++ (zRq ++ [.int .u32 0, .int .u8 code])))))))))))))
theorem nxL_len (z : Int) (v : Value) (code : Int) : (nxL z v code).length = 45 := rfl
abbrev zDesk : Array Value := (deskL 0).toArray
abbrev zNx : Array Value := (nxL 0 (.slice none 0 0) 0).toArray
theorem nx_at (W : World) (z : Int) (v : Value) (rss : List (List Value)) (rq : List (Int × Nat)) (code : Int) (hv : v.oneCell' = true) (h : RqsAt W v rss rq) : NxAt W (nxL z v code) v rss rq z 0 0#32 code :=
  ⟨rfl, fun u hu => by
    simp only [nxL, deskL, zRq, List.cons_append, List.nil_append, List.mem_cons, List.not_mem_nil, or_false] at hu
    rcases hu with rfl | rfl | rfl | rfl | rfl | rfl | hu
    · rfl
    · rfl
    · rfl
    · rfl
    · rfl
    · exact hv
    · repeat (rcases hu with rfl | hu; · rfl), rfl, ⟨none, 0, rfl⟩, rfl, h, rfl, rfl⟩
theorem rqs_nil (W : World) : RqsAt W (.slice none 0 0) [] [] := ⟨rfl, fun _ h => (by cases h), fun _ h => (by cases h), SliceAt.nil_ _ _, fun i cs r h h1 => (by simp at h1)⟩
set_option maxRecDepth 100000 in
theorem run_desk (W : World) : (Instr.build 44 #[(0, .int .i64 (-1))]).run Tryz.prog W = .ok (.agg (deskL (-1)).toArray) W := by
  go_simp
set_option maxRecDepth 100000 in
theorem run_nx (W : World) : (Instr.build 50 #[(0, .agg (deskL (-1)).toArray)]).run Tryz.prog W = .ok (.agg (nxL (-1) (.slice none 0 0) 0).toArray) W := by
  go_simp
set_option maxRecDepth 100000 in
theorem New25_c (w : World) : Calls Tryz.prog 71 #[] w fun e w' => Below w.heap.size w w' ∧ e = .returned (.agg (deskL (-1)).toArray) := by
  have b0 := below_new w (.cells zDesk 44)
  have g0 := new_at (w := w) rfl (.cells zDesk 44)
  have szI : (Tryz.prog.info? 44).map (·.size) = some (deskL (-1)).length := by kernel_rfl
  have oneM : (deskL (-1)).toArray.all (·.oneCell') = true := by simp [Value.oneCell']
  obtain ⟨W3, hW, X, BF, far, ths⟩ := fill_new (deskL (-1)) g0 rfl b0 (Nat.le_refl _)
  have HW := Lib.hid hW
  clear hW
  go_enter Tryz.func71, Tryz.ntmps71
  go_upto_region 1 with (fail)
  have hW0 : w.alloc (.cells #[.int .i64 0, .slice none 0 0, .int .i64 0, .int .u8 0, .int .i64 0] 44) = w.alloc (.cells zDesk 44) := rfl
  rw [hW0]
  clear hW0
  generalize w.alloc (.cells zDesk 44) = W0 at *
  go_wp2_with (first
    | (refine wpList_store_mid rfl 44 (.tmp 0) (.tmp 1) (by rfl) w.heap.size 0 (deskL (-1)).toArray (by rfl) (by rfl) ths (by simpa using szI) oneM ?_; rw [HW.out])
    | fail)
  exact bodyPost_ret (res_mid (t := 0) (M := deskL (-1)) Tryz.underlying44 rfl rfl szI rfl X) rfl ⟨BF, rfl⟩
set_option maxRecDepth 100000 in
theorem New27_c (w : World) : Calls Tryz.prog 17 #[] w fun e w' => Below w.heap.size w w' ∧ e = .returned (.agg (nxL (-1) (.slice none 0 0) 0).toArray) := by
  have b0 := below_new w (.cells zNx 50)
  have g0 := new_at (w := w) rfl (.cells zNx 50)
  have szI : (Tryz.prog.info? 50).map (·.size) = some (nxL (-1) (.slice none 0 0) 0).length := by kernel_rfl
  have oneM : (nxL (-1) (.slice none 0 0) 0).toArray.all (·.oneCell') = true := all_one (nx_at w (-1) (.slice none 0 0) [] [] 0 rfl (rqs_nil w)).one
  go_enter Tryz.func17, Tryz.ntmps17
  go_upto_region 1 with (fail)
  have hW0 : ∀ x, x = w.alloc (.cells zNx 50) → x = w.alloc (.cells zNx 50) := fun _ h => h
  go_wp2_with fail
  refine (New25_c _).mono ?_
  rintro e W1 ⟨b1, rfl⟩
  have g1 := var_later g0 b1
  have B1 := below_step b0 b1
  obtain ⟨W3, hW, X, BF, far, ths⟩ := fill_new (nxL (-1) (.slice none 0 0) 0) g1 rfl B1 (Nat.le_refl _)
  have HW := Lib.hid hW
  clear hW g0 g1 b0 b1 B1 hW0
  go_wp2_with (first
    | refine wpList_bld_g (by rfl) 50 [(0, .tmp 1)] _ _ (by rfl) (by rfl) (run_nx _) ?_
    | (refine wpList_store_mid rfl 50 (.tmp 0) (.tmp 2) (by rfl) w.heap.size 0 (nxL (-1) (.slice none 0 0) 0).toArray (by rfl) (by rfl) ths (by simpa using szI) oneM ?_; rw [HW.out])
    | fail)
  exact bodyPost_ret (res_mid (t := 0) (M := nxL (-1) (.slice none 0 0) 0) Tryz.underlying50 rfl rfl szI rfl X) rfl ⟨BF, rfl⟩
end Go.Proofs.YtppcdmbpbbjecaaGreat
namespace Go.Proofs.YtppcdmbpbbjecaaGreat
open List renaming getElem_toArray → zA, getElem_cons_succ → zS, getElem_cons_zero → zZ, setIfInBounds_toArray → zP, set_cons_zero → zQ, set_cons_succ → zR
open Go.RowKit Rf Mem Bv AM SM
attribute [local go_sem ↓] run_max2 run_min2
abbrev sec1 : List Value := [.int .u8 2, .int .i64 (-1), .int .i64 0, .int .i64 (-1), .int .i64 0, .int .i64 (-1), .int .i64 0, .int .i64 (-1), .int .i64 0, .int .i64 0, .int .i64 0]
abbrev layP (a b c : Value) : Array Value := #[a, b, c, .slice none 0 0, .int .i64 1, .int .i64 1, .int .i64 9, .int .i64 1, .int .i64 1, .int .i64 1, .int .i64 1]
abbrev zLayP : Array Value := #[.slice none 0 0, .slice none 0 0, .slice none 0 0, .slice none 0 0, .int .i64 0, .int .i64 0, .int .i64 0, .int .i64 0, .int .i64 0, .int .i64 0, .int .i64 0]
/-- what point holds -/
structure TP (w W : World) (a b c : Value) : Prop where
  bel : Below w.heap.size w W
  z0 : W.heap[w.heap.size]? = some (.cells zLayP 29 (0, 0))
  z1 : W.heap[w.heap.size + 1]? = some (.cells zImg 35 (0, 0))
  n : W.heap[w.heap.size + 1 + 1]? = some (.cells #[.int .i64 (-1), .int .i64 0] 66 (0, 0))
  l : W.heap[w.heap.size + 1 + 1 + 1]? = some (.cells (layP a b c) 29 (0, 0))
theorem TP.later {w W W' : World} {a b c : Value} (h : TP w W a b c) (h' : Below W.heap.size W W') : TP w W' a b c :=
  ⟨below_step h.bel h', var_later h.z0 h', var_later h.z1 h', var_later h.n h', var_later h.l h'⟩
theorem TP.set {w W : World} {a b c : Value} (h : TP w W a b c) (i : Nat) (u a' b' c' : Value) (e : (layP a b c).setIfInBounds i u = layP a' b' c') : TP w (W.setCell ⟨w.heap.size + 1 + 1 + 1, i, none⟩ u) a' b' c' :=
  ⟨below_set h.bel (by omega) i u, set_far h.z0 (by simp; try omega) u, set_far h.z1 (by simp; try omega) u, set_far h.n (by simp) u, e ▸ set_at h.l i u⟩
theorem res_two28 {fn : Func} {tmps : Array Value} {W : World} {L M : List Value} {g1 g2 : Nat} {t1 t2 : Tmp} {f1 f2 : Nat × Nat} {u1 u2 : TypeId} (hf : fn.results = #[.cell t1 29, .cell t2 35])
    (h1 : tmps.getD t1 undef = .pointer (some ⟨g1, 0, none⟩)) (h2 : tmps.getD t2 undef = .pointer (some ⟨g2, 0, none⟩))
    (k1 : W.heap[g1]? = some (.cells L.toArray u1 f1)) (k2 : W.heap[g2]? = some (.cells M.toArray u2 f2)) (l1 : L.length = 11) (l2 : M.length = 29) :
    (results fn tmps).run Tryz.prog W = .ok (.tuple #[.agg L.toArray, .agg M.toArray]) W := by
  have h1' : tmps[t1]?.getD undef = .pointer (some ⟨g1, 0, none⟩) := by simpa using h1
  have h2' : tmps[t2]?.getD undef = .pointer (some ⟨g2, 0, none⟩) := by simpa using h2
  have r1 := run_loadVar_mid (P := Tryz.prog) W g1 0 29 L _ (range_of k1) Tryz.underlying29 rfl (lay_size l1)
  have r2 := run_loadVar_mid (P := Tryz.prog) W g2 0 35 M _ (range_of k2) Tryz.underlying35 rfl (img_size l2)
  simp [results, hf, h1', h2', asAddr, r1, r2]
set_option maxHeartbeats 2000000 in
set_option maxRecDepth 100000 in
theorem point28_c (w : World) : Calls Tryz.prog 16 #[] w fun e w' => Below w.heap.size w w' ∧ ∃ (L M : List Value) (gS gG : Nat), e = .returned (.tuple #[.agg L.toArray, .agg M.toArray]) ∧
    LayF L 1 1 1 9 (some ⟨gS, 0, none⟩) 1 (some ⟨gG, 0, none⟩) 1 ∧ w'.heap[gS]? = some (.cells sec1.toArray 96 (0, 0)) ∧ ImgF M 0 (List.replicate 24 1) 0#32 0#32 1#32 1#32 ∧ (∀ u ∈ L, u.oneCell' = true) := by
  obtain ⟨W1, hW1⟩ : ∃ W1, (((w.alloc (.cells zLayP 29)).alloc (.cells zImg 35)).alloc (.cells #[.int .i64 (-1), .int .i64 0] 66)).alloc (.cells (layP (.slice none 0 0) (.slice none 0 0) (.slice none 0 0)) 29) = W1 := ⟨_, rfl⟩
  have T : TP w W1 (.slice none 0 0) (.slice none 0 0) (.slice none 0 0) := by
    rw [← hW1]
    exact ⟨below_step (below_step (below_step (below_new _ _) (below_new _ _)) (below_new _ _)) (below_new _ _), old_at (old_at (old_at (new_at rfl _) _) _) _, old_at (old_at (new_at (by simp) _) _) _, old_at (new_at (by simp) _) _, new_at (by simp) _⟩
  go_enter Tryz.func16, Tryz.ntmps16
  go_upto_region 3 with (fail)
  generalize (((w.alloc (.cells zLayP 29)).alloc (.cells zImg 35)).alloc (.cells #[.int .i64 (-1), .int .i64 0] 66)).alloc (.cells (layP (.slice none 0 0) (.slice none 0 0) (.slice none 0 0)) 29) = W1' at *
  subst hW1
  go_cut [] from 7 to 14 (fun wx => ∃ gS : Nat, w.heap.size + 3 < gS ∧ TP w wx (.slice (some ⟨gS, 0, none⟩) 1 1) (.slice none 0 0) (.slice none 0 0) ∧ wx.heap[gS]? = some (.cells sec1.toArray 96 (0, 0)))
  case first =>
    skip
    have bN := below_new W1' (.cells sec1.toArray 96)
    have VN := new_at (w := W1') rfl (.cells sec1.toArray 96)
    have T2 := T.later bN
    have n0 := cell_at T.n 0
    have n1 := cell_at T.n 1
    have l0 := cell_at T2.l 0
    have f0 := free_at T2.l 0
    have hlt := lt_at T.l
    generalize hgS : W1'.heap.size = gS at *
    have T3 := T2.set 0 (.slice (some ⟨gS, 0, none⟩) 1 1) (.slice (some ⟨gS, 0, none⟩) 1 1) (.slice none 0 0) (.slice none 0 0) rfl
    replace VN := set_far VN (p := ⟨w.heap.size + 1 + 1 + 1, 0, none⟩) (by simp; omega) (.slice (some ⟨gS, 0, none⟩) 1 1)
    have HLT := Lib.hid hlt
    clear bN T2 T hlt
    go_wp2
    go_meet
    exact ⟨gS, by have := HLT.out; omega, T3, VN⟩
  case rest =>
    clear T
    obtain ⟨gS, hS, T, VS⟩ := hcut
    replace hS := Lib.hid hS
    go_upto_region 4 with (fail)
    go_cut [] from 15 to 18 (fun wx => ∃ gG : Nat, TP w wx (.slice (some ⟨gS, 0, none⟩) 1 1) (.slice (some ⟨gG, 0, none⟩) 1 1) (.slice none 0 0) ∧ wx.heap[gS]? = some (.cells sec1.toArray 96 (0, 0)))
    case first =>
      skip
      have bN := below_new wc (.cells #[.int .i64 0, .int .i64 0] 135)
      have T2 := T.later bN
      have l0 := cell_at T2.l 1
      have f0 := free_at T2.l 1
      have hlt := lt_at T.l
      replace VS := var_later VS bN
      generalize hgG : wc.heap.size = gG at *
      have T3 := T2.set 1 (.slice (some ⟨gG, 0, none⟩) 1 1) (.slice (some ⟨gS, 0, none⟩) 1 1) (.slice (some ⟨gG, 0, none⟩) 1 1) (.slice none 0 0) rfl
      replace VS := set_far VS (p := ⟨w.heap.size + 1 + 1 + 1, 1, none⟩) (by have := hS.out; simp; omega) (.slice (some ⟨gG, 0, none⟩) 1 1)
      have HLT := Lib.hid hlt
      clear bN T2 T hlt
      go_wp2
      go_meet
      exact ⟨gG, T3, VS⟩
    case rest =>
      clear T VS
      obtain ⟨gG, T, VS⟩ := hcut
      go_upto_region 5 with (fail)
      go_cut [] from 19 to 22 (fun wx => ∃ gE : Nat, TP w wx (.slice (some ⟨gS, 0, none⟩) 1 1) (.slice (some ⟨gG, 0, none⟩) 1 1) (.slice (some ⟨gE, 0, none⟩) 1 1) ∧ wx.heap[gS]? = some (.cells sec1.toArray 96 (0, 0)))
      case first =>
        skip
        have bN := below_new wc (.cells #[.int .i64 0, .int .i64 2, .slice none 0 0] 69)
        have T2 := T.later bN
        have l0 := cell_at T2.l 2
        have f0 := free_at T2.l 2
        have hlt := lt_at T.l
        replace VS := var_later VS bN
        generalize hgE : wc.heap.size = gE at *
        have T3 := T2.set 2 (.slice (some ⟨gE, 0, none⟩) 1 1) (.slice (some ⟨gS, 0, none⟩) 1 1) (.slice (some ⟨gG, 0, none⟩) 1 1) (.slice (some ⟨gE, 0, none⟩) 1 1) rfl
        replace VS := set_far VS (p := ⟨w.heap.size + 1 + 1 + 1, 2, none⟩) (by have := hS.out; simp; omega) (.slice (some ⟨gE, 0, none⟩) 1 1)
        have HLT := Lib.hid hlt
        clear bN T2 T hlt
        go_wp2
        go_meet
        exact ⟨gE, T3, VS⟩
      case rest =>
        clear T VS
        obtain ⟨gE, T, VS⟩ := hcut
        go_upto_region 6 with (fail)
        obtain ⟨L, hL⟩ : ∃ L : List Value, [.slice (some ⟨gS, 0, none⟩) 1 1, .slice (some ⟨gG, 0, none⟩) 1 1, .slice (some ⟨gE, 0, none⟩) 1 1, .slice none 0 0, .int .i64 1, .int .i64 1, .int .i64 9, .int .i64 1, .int .i64 1, .int .i64 1, .int .i64 1] = L := ⟨_, rfl⟩
        have TL : wc.heap[w.heap.size + 1 + 1 + 1]? = some (.cells L.toArray 29 (0, 0)) := by rw [← hL]; exact T.l
        have FL : LayF L 1 1 1 9 (some ⟨gS, 0, none⟩) 1 (some ⟨gG, 0, none⟩) 1 := by rw [← hL]; exact ⟨rfl, rfl, rfl, rfl, rfl⟩
        have oneL : ∀ u ∈ L, u.oneCell' = true := by rw [← hL]; intro u hu; simp at hu; rcases hu with rfl | rfl | rfl | rfl | rfl | rfl | rfl <;> rfl
        have B := T.bel
        have z0 := T.z0
        have z1 := T.z1
        have szL := lay_size FL.len
        have hrl : rowL 0#32 (decide ((9 : Int) < 0)) (List.replicate 24 0) 24 = List.replicate 24 1 := by decide +kernel
        have HI := (newI_f.withIn_ 0#32 0#32 1#32 1#32).with_ (f := rowL 0#32 (decide ((9 : Int) < 0)) (List.replicate 24 0) 24) (rowL_len _ _ _ _)
        obtain ⟨M, hM⟩ : ∃ M, withFree (withIn newI 0#32 0#32 1#32 1#32) (rowL 0#32 (decide ((9 : Int) < 0)) (List.replicate 24 0) 24) = M := ⟨_, rfl⟩
        rw [hM] at HI
        rw [hrl] at HI
        have HM := Lib.hid hM
        have szM := img_size HI.len
        have hgS := hS.out
        clear T hL hM hrl hS
        refine wp_region_held_drew (S := (fun w' => w'.rangeAt (w.heap.size + 1 + 1 + 1) 0 L)) (by kernel_rfl) ?_ (fun hHeld => ?_)
        · exact range_of TL
        have bd : Below wc.heap.size wc wc.drew := (Below.refl _ wc).drew
        replace TL := var_later TL bd
        replace VS := var_later VS bd
        replace z0 := var_later z0 bd
        replace z1 := var_later z1 bd
        replace B := below_step B bd
        clear bd
        generalize wc.drew = V at *
        refine wpAnyH_take (i := 0) (v := .agg (L : List Value).toArray) rfl (by kernel_rfl) (by kernel_rfl) (by kernel_rfl) (fun _ _ _ h => h) (yieldsIf_load_mid (by kernel_rfl) 29 (.tmp 3) (by kernel_rfl) (w.heap.size + 1 + 1 + 1) 0 (by kernel_rfl) L _ (fun w' h => h) (by first | exact Tryz.underlying29) rfl (by first | assumption | (simp only [*]; kernel_rfl))) (by assumption) ?_
        try simp only [zA, zS, zZ, Act.put, zP, zQ, zR]
        refine wpAnyH_take (i := 1) (v := .agg (L : List Value).toArray) rfl (by kernel_rfl) (by kernel_rfl) (by kernel_rfl) (fun _ _ _ h => h) (yieldsIf_load_mid (by kernel_rfl) 29 (.tmp 3) (by kernel_rfl) (w.heap.size + 1 + 1 + 1) 0 (by kernel_rfl) L _ (fun w' h => h) (by first | exact Tryz.underlying29) rfl (by first | assumption | (simp only [*]; kernel_rfl))) (by assumption) ?_
        try simp only [zA, zS, zZ, Act.put, zP, zQ, zR]
        refine Node.tk 3 ?_ rfl ?_ ?_
        rotate_left
        · intro w hSw; (try dsimp only at hSw); go_simp; try with_reducible rfl
        simp only [zA, zS, zZ, Act.put, zP, zQ, zR]
        clear hHeld
        refine Node.on 2 rfl (fun K hK => ?_)
        refine Node.wp_fn 70 [] _ [] (by rfl) (by rfl) (enters Tryz.func70 (by kernel_rfl) rfl) (refNew_c V) ?_
        rintro e V' ⟨bF, rfl⟩
        refine ⟨_, rfl, ?_⟩
        replace TL := var_later TL bF
        replace VS := var_later VS bF
        replace z0 := var_later z0 bF
        replace z1 := var_later z1 bF
        replace B := below_step B bF
        clear bF
        generalize V' = V at *
        refine hK.out _ _ (range_of TL) (fun _ => ?_)
        clear hK K
        try simp only [zA, zS, zZ, Act.put, zP, zQ, zR]
        refine Node.on 4 rfl (fun K hK => ?_)
        refine Node.wp_fn 69 [.tmp 24, .tmp 25, .tmp 26] _ [.agg L.toArray, .agg newI.toArray, .agg (inV 0#32 0#32 1#32 1#32)] (by rfl) (by rfl) (enters Tryz.func69 (by kernel_rfl) rfl) (refTake_c L newI 1 1 1 9 65535 _ _ 1 1 (List.replicate 24 0) 0#32 0#32 0#32 0#32 0#32 0#32 1#32 1#32 V FL newI_f) ?_
        rintro e V' ⟨bF, he⟩
        rw [HM.out] at he
        subst he
        refine ⟨_, rfl, ?_⟩
        replace TL := var_later TL bF
        replace VS := var_later VS bF
        replace z0 := var_later z0 bF
        replace z1 := var_later z1 bF
        replace B := below_step B bF
        clear bF
        generalize V' = V at *
        refine hK.out _ _ (range_of TL) (fun _ => ?_)
        clear hK K
        try simp only [zA, zS, zZ, Act.put, zP, zQ, zR]
        obtain ⟨V1, e1, X1, B1, far1, th1⟩ := fill_new L z0 (by rw [FL.len]; rfl) B (Nat.le_refl _)
        refine Node.on 5 rfl (fun K hK => ?_)
        refine wp_store_mid 29 (.tmp 0) (.tmp 23) (by rfl) w.heap.size 0 L.toArray (by rfl) (by rfl) th1 (by simpa using szL) (all_one oneL) ?_
        rw [e1]
        replace TL := (far1 _ (by omega)).trans TL
        replace VS := (far1 _ (by omega)).trans VS
        replace z1 := (far1 _ (by omega)).trans z1
        refine hK.out _ _ (range_of TL) (fun _ => ?_)
        clear hK K
        try simp only [zA, zS, zZ, Act.put, zP, zQ, zR]
        obtain ⟨V2, e2, X2, B2, far2, th2⟩ := fill_new M z1 (by rw [HI.len]; rfl) B1 (by omega)
        refine Node.on 6 rfl (fun K hK => ?_)
        refine wp_store_mid 35 (.tmp 1) (.tmp 27) (by rfl) (w.heap.size + 1) 0 M.toArray (by rfl) (by rfl) th2 (by simpa using szM) (all_one HI.one) ?_
        rw [e2]
        replace TL := (far2 _ (by omega)).trans TL
        replace VS := (far2 _ (by omega)).trans VS
        replace X1 := (far2 _ (by omega)).trans X1
        refine hK.out _ _ (range_of TL) (fun _ => ?_)
        clear hK K
        try simp only [zA, zS, zZ, Act.put, zP, zQ, zR]
        refine wpAnyH_done (by kernel_rfl) ?_ _
        go_wp2
        refine bodyPost_ret (res_two28 (t1 := 0) (t2 := 1) rfl rfl rfl X1 X2 FL.len HI.len) rfl ?_
        first | exact ⟨B2, L, M, rfl, gS, ⟨gG, FL⟩, VS, HI, oneL⟩ | exact ⟨B2, L, M, gS, gG, rfl, FL, VS, HI, oneL⟩
end Go.Proofs.YtppcdmbpbbjecaaGreat
namespace Go.Proofs.YtppcdmbpbbjecaaGreat
open List renaming getElem_toArray → zA, getElem_cons_succ → zS, getElem_cons_zero → zZ, setIfInBounds_toArray → zP, set_cons_zero → zQ, set_cons_succ → zR
open Go.RowKit Rf Mem Bv AM SM Bits
/-- the law's point, its route, its requests -/
abbrev pI (A : Option Addr) (c : Nat) (A1 : Option Addr) (c1 : Nat) : IM := ⟨[2], 1, 1, 9, A, c, A1, c1, 0, List.replicate 24 1, 0#32, 0#32, 1#32, 1#32⟩
abbrev qS : HeldM := ⟨1, 0, 0, [(0, 0, 2)], [], [(0, 1, 0)], 2, 0, List.replicate 12 false, false, 0, false⟩
abbrev wantS : ShowM := ⟨1#32, 1#32, 0#32, 1#32, 1#32, 1#32, 1#32, 0#32, 0#32, 1, 1, 1⟩
abbrev flashS : ShowM := ⟨1#32, 0#32, 0#32, 1#32, 0#32, 0#32, 0#32, 1#32, 0#32, 1, 1, 0⟩
section
variable (A : Option Addr) (c : Nat) (A1 : Option Addr) (c1 : Nat)
theorem wk_of : ofM (pI A c A1 c1) [qS] [(0, 0)] (-1) 0#32 1 257 = wantS := by
  have h : ofM (pI none 0 none 0) [qS] [(0, 0)] (-1) 0#32 1 257 = wantS := by
    unfold ofM
    congr 1 <;> decide +kernel
  exact h
theorem wk_of2 : ofM (pI A c A1 c1) [] [(0, 0)] (-1) 0#32 1 0 = flashS := by
  have h : ofM (pI none 0 none 0) [] [(0, 0)] (-1) 0#32 1 0 = flashS := by
    unfold ofM
    congr 1 <;> decide +kernel
  exact h
end
abbrev wkB : List (BitVec 8) := [0xED#8, 0x12#8, 0x02#8]
theorem wk_holds : Bits.Holds wkB (fbits (flds wantS [2] 1)) := ⟨by decide +kernel, 1, by decide +kernel⟩
theorem wk_put {B : List (BitVec 8)} (h : Bits.Holds B (fbits (flds wantS [2] 1))) : B = wkB := holds_unique h wk_holds
theorem wk_size : (sumW (flds s0 [2] 1) + 7) / 8 = 3 := by decide +kernel
theorem wk_dec : dec (bitsOf wkB) [2] 1 = wantS := by
  show (⟨_, _, _, _, _, _, _, _, _, _, _, _⟩ : ShowM) = _
  congr 1 <;> decide +kernel
theorem wk_take {s : ShowM} {e : Int} (h : TakeR wkB [2] 1 s e) : s = wantS ∧ e = 0 := by
  rcases h with ⟨_, _, h1, h2⟩ | ⟨h, _⟩
  · exact ⟨h1.trans wk_dec, h2⟩
  · exact absurd ⟨by rw [wk_size]; rfl, by rw [wk_dec]; exact wk_holds⟩ h
theorem wk_take4 {s : ShowM} {e : Int} (h : TakeR (wkB ++ [0#8]) [2] 1 s e) : s = s0 ∧ e = 41 := by
  rcases h with ⟨h, _⟩ | ⟨_, h1, h2⟩
  · rw [wk_size] at h; simp at h
  · exact ⟨h1, h2⟩
end Go.Proofs.YtppcdmbpbbjecaaGreat
namespace Go.Proofs.YtppcdmbpbbjecaaGreat
open List renaming getElem_toArray → zA, getElem_cons_succ → zS, getElem_cons_zero → zZ, setIfInBounds_toArray → zP, set_cons_zero → zQ, set_cons_succ → zR
open Go.RowKit Rf Mem Bv AM SM
instance : DecidableEq ShowM := fun a b => decidable_of_iff (a.clear = b.clear ∧ a.held = b.held ∧ a.normal = b.normal ∧ a.reverse = b.reverse ∧ a.locked = b.locked ∧ a.off = b.off ∧ a.steady = b.steady ∧ a.flash = b.flash ∧ a.autos = b.autos ∧ a.code = b.code ∧ a.waiting = b.waiting ∧ a.errors = b.errors) (by cases a; cases b; simp)
structure ShOk (s : ShowM) : Prop where
  c : 0 ≤ s.code ∧ s.code ≤ 255
  w : -9223372036854775808 ≤ s.waiting ∧ s.waiting ≤ 9223372036854775807
  e : -9223372036854775808 ≤ s.errors ∧ s.errors ≤ 9223372036854775807
def litS (s : ShowM) : List Lit := [.int .u32 s.clear.toNat, .int .u32 s.held.toNat, .int .u32 s.normal.toNat, .int .u32 s.reverse.toNat, .int .u32 s.locked.toNat, .int .u32 s.off.toNat, .int .u32 s.steady.toNat, .int .u32 s.flash.toNat, .int .u32 s.autos.toNat, .int .u8 s.code, .int .i64 s.waiting, .int .i64 s.errors]
theorem litS_inj {a b : ShowM} (h : litS a = litS b) : a = b := by
  obtain ⟨a1, a2, a3, a4, a5, a6, a7, a8, a9, a10, a11, a12⟩ := a
  obtain ⟨b1, b2, b3, b4, b5, b6, b7, b8, b9, b10, b11, b12⟩ := b
  simp only [litS, List.cons.injEq, Lit.int.injEq, true_and, and_true] at h
  obtain ⟨h1, h2, h3, h4, h5, h6, h7, h8, h9, rfl, rfl, rfl⟩ := h
  have q1 : a1 = b1 := BitVec.eq_of_toNat_eq (by omega)
  have q2 : a2 = b2 := BitVec.eq_of_toNat_eq (by omega)
  have q3 : a3 = b3 := BitVec.eq_of_toNat_eq (by omega)
  have q4 : a4 = b4 := BitVec.eq_of_toNat_eq (by omega)
  have q5 : a5 = b5 := BitVec.eq_of_toNat_eq (by omega)
  have q6 : a6 = b6 := BitVec.eq_of_toNat_eq (by omega)
  have q7 : a7 = b7 := BitVec.eq_of_toNat_eq (by omega)
  have q8 : a8 = b8 := BitVec.eq_of_toNat_eq (by omega)
  have q9 : a9 = b9 := BitVec.eq_of_toNat_eq (by omega)
  subst q1 q2 q3 q4 q5 q6 q7 q8 q9
  rfl
theorem wfS_u8 {n : Int} (h : 0 ≤ n ∧ n ≤ 255) : (Lit.int .u8 n).wf = true := by
  have h1 : IntKind.u8.min = 0 := rfl
  have h2 : IntKind.u8.max = 255 := rfl
  simp only [Lit.wf, h1, h2, Bool.and_eq_true, decide_eq_true_eq]
  omega
theorem wfS_u32 (x : BitVec 32) : (Lit.int .u32 (x.toNat : Int)).wf = true := by
  have h := x.isLt
  have h1 : IntKind.u32.min = 0 := rfl
  have h2 : IntKind.u32.max = 4294967295 := rfl
  simp only [Lit.wf, h1, h2, Bool.and_eq_true, decide_eq_true_eq]
  omega
theorem wfS_i64 {n : Int} (h : -9223372036854775808 ≤ n ∧ n ≤ 9223372036854775807) : (Lit.int .i64 n).wf = true := by
  have h1 : IntKind.i64.min = -9223372036854775808 := rfl
  have h2 : IntKind.i64.max = 9223372036854775807 := rfl
  simp only [Lit.wf, h1, h2, Bool.and_eq_true, decide_eq_true_eq]
  omega
theorem keyS_int {t : TypeId} {k : IntKind} {n : Int} (D : Nat) (ht : Tryz.prog.underlying t = some (.int k)) (hw : (Lit.int k n).wf = true) : Tryz.prog.keyLits (D + 1) t [.int k n] = some [.int k n] := by
  unfold Program.keyLits
  rw [ht]
  simp [hw]
theorem key_show (s : ShowM) (D : Nat) (h : ShOk s) : Tryz.prog.keyLits (D + 1 + 1) 52 (showL s) = some (litS s) := by
  unfold Program.keyLits
  rw [Tryz.underlying52]
  have hl : (showL s).length = 12 := rfl
  simp only [hl, show Tryz.prog.cellsOf 52 = 12 by kernel_rfl]
  rw [if_pos ⟨trivial, by kernel_rfl⟩]
  have c1 : Tryz.prog.cellsOf 31 = 1 := by kernel_rfl
  have c2 : Tryz.prog.cellsOf 5 = 1 := by kernel_rfl
  have c3 : Tryz.prog.cellsOf 3 = 1 := by kernel_rfl
  have e0 : ((showL s).drop 0).take 1 = [.int .u32 s.clear.toNat] := rfl
  have e1 : ((showL s).drop 1).take 1 = [.int .u32 s.held.toNat] := rfl
  have e2 : ((showL s).drop 2).take 1 = [.int .u32 s.normal.toNat] := rfl
  have e3 : ((showL s).drop 3).take 1 = [.int .u32 s.reverse.toNat] := rfl
  have e4 : ((showL s).drop 4).take 1 = [.int .u32 s.locked.toNat] := rfl
  have e5 : ((showL s).drop 5).take 1 = [.int .u32 s.off.toNat] := rfl
  have e6 : ((showL s).drop 6).take 1 = [.int .u32 s.steady.toNat] := rfl
  have e7 : ((showL s).drop 7).take 1 = [.int .u32 s.flash.toNat] := rfl
  have e8 : ((showL s).drop 8).take 1 = [.int .u32 s.autos.toNat] := rfl
  have e9 : ((showL s).drop 9).take 1 = [.int .u8 s.code] := rfl
  have e10 : ((showL s).drop 10).take 1 = [.int .i64 s.waiting] := rfl
  have e11 : ((showL s).drop 11).take 1 = [.int .i64 s.errors] := rfl
  simp only [List.mapM_cons, List.mapM_nil, c1, c2, c3, e0, e1, e2, e3, e4, e5, e6, e7, e8, e9, e10, e11, keyS_int D Tryz.underlying31 (wfS_u32 _), keyS_int D Tryz.underlying5 (wfS_u8 h.c), keyS_int D Tryz.underlying3 (wfS_i64 h.w), keyS_int D Tryz.underlying3 (wfS_i64 h.e)]
  simp [litS]
theorem eq_show (a b : ShowM) (ha : ShOk a) (hb : ShOk b) (w : World) : (Op.equalIn 10000 52 (.agg (showL a).toArray) (.agg (showL b).toArray)).run Tryz.prog w = .ok (decide (a = b)) w := by
  have fo : ∀ s, Value.formed Tryz.prog 52 (.agg (showL s).toArray) := fun s => by simp [Value.formed, Tryz.underlying52, show (showL s).length = 12 from rfl, show Tryz.prog.cellsOf 52 = 12 by kernel_rfl]
  obtain ⟨r, hr, hiff⟩ := run_equalIn_deep (P := Tryz.prog) 9998 2 52 (by kernel_rfl) w _ _ (.agg (showL a).toArray) (.agg (showL b).toArray) _ _ (fo a) (fo b) (key_show a 0 ha) (key_show b 0 hb)
  have e : r = decide (a = b) := by
    rw [Bool.eq_iff_iff, hiff, decide_eq_true_eq]
    exact ⟨litS_inj, fun h => by rw [h]⟩
  rw [← e]
  exact hr
end Go.Proofs.YtppcdmbpbbjecaaGreat
namespace Go.Proofs.YtppcdmbpbbjecaaGreat
open List renaming getElem_toArray → zA, getElem_cons_succ → zS, getElem_cons_zero → zZ, setIfInBounds_toArray → zP, set_cons_zero → zQ, set_cons_succ → zR
open Go.RowKit Rf Mem Bv AM SM Bits
/-- a layout of one section, whole -/
theorem ly_one {W : World} {L : List Value} {gS gG : Nat} (FL : LayF L 1 1 1 9 (some ⟨gS, 0, none⟩) 1 (some ⟨gG, 0, none⟩) 1) (VS : W.heap[gS]? = some (.cells sec1.toArray 96 (0, 0))) :
    LY W L [2] [sec1] 1 1 9 (some ⟨gS, 0, none⟩) 1 (some ⟨gG, 0, none⟩) 1 :=
  ⟨FL, ⟨_, 1, rfl, Nat.le_refl _, by simp [maxLen], .inr ⟨gS, 0, rfl, lt_at VS, fun k z hk => by
      match k, hk with
      | 0, hk => cases hk; rw [cell_at VS]; rfl
      | k + 1, hk => simp at hk⟩⟩, rfl,
    ⟨_, 1, rfl, Nat.le_refl _, by simp [maxLen], fun s hs => by simp only [List.mem_singleton] at hs; subst hs; exact ⟨rfl, fun u hu => by simp at hu; rcases hu with rfl | rfl | rfl | rfl | rfl | rfl | rfl | rfl | rfl <;> rfl⟩, .inr ⟨gS, 0, rfl, lt_at VS, fun k s hk => by
      match k, hk with
      | 0, hk => cases hk; rw [Nat.zero_mul]; exact range_of VS
      | k + 1, hk => simp at hk⟩⟩⟩
theorem ima_one {W : World} {L M : List Value} {gS gG : Nat} (FL : LayF L 1 1 1 9 (some ⟨gS, 0, none⟩) 1 (some ⟨gG, 0, none⟩) 1) (VS : W.heap[gS]? = some (.cells sec1.toArray 96 (0, 0))) (FI : ImgF M 0 (List.replicate 24 1) 0#32 0#32 1#32 1#32) :
    IMA (pI (some ⟨gS, 0, none⟩) 1 (some ⟨gG, 0, none⟩) 1) L M W := ⟨⟨FL, FI⟩, (ly_one FL VS).sa⟩
theorem rqs_one {W : World} {g : Nat} (h : W.heap[g]? = some (.cells zRq.toArray 47 (0, 0))) : RqsAt W (.slice (some ⟨g, 0, none⟩) 1 1) [zRq] [(0, 0)] :=
  ⟨rfl, fun x hx => by simp at hx; subst hx; rfl, fun x hx u hu => by simp at hx; subst hx; simp at hu; rcases hu with rfl | rfl | rfl <;> rfl,
    ⟨_, 1, rfl, Nat.le_refl _, by simp [maxLen], by simp, .inr ⟨_, 0, rfl, lt_at h, fun i u hu => by rw [Nat.zero_add]; exact cell_list h (by simpa using hu)⟩⟩,
    fun i cs r h1 h2 => by
      match i, h1, h2 with
      | 0, h1, h2 => cases h1; cases h2; exact ⟨rfl, none, 0, rfl⟩
      | k + 1, h1, h2 => simp at h1⟩
/-- what wakes holds -/
structure Z28 (w W : World) (g1 g2 g3 g4 gS gG : Nat) (L M Kn N H : List Value) (vk vn : Value) : Prop where
  bw : Below w.heap.size w W
  fl : LayF L 1 1 1 9 (some ⟨gS, 0, none⟩) 1 (some ⟨gG, 0, none⟩) 1
  fi : ImgF M 0 (List.replicate 24 1) 0#32 0#32 1#32 1#32
  vs : W.heap[gS]? = some (.cells sec1.toArray 96 (0, 0))
  l : W.heap[g1]? = some (.cells L.toArray 29 (0, 0))
  m : W.heap[g2]? = some (.cells M.toArray 35 (0, 0))
  k : W.heap[g3]? = some (.cells Kn.toArray 41 (0, 0))
  n : W.heap[g4]? = some (.cells N.toArray 50 (0, 0))
  ker : KerAt W Kn vk [H] [qS] 2 ms0
  nx : NxAt W N vn [zRq] [(0, 0)] (-1) 0 0#32 1
section
variable {w W W' : World} {g1 g2 g3 g4 gS gG : Nat} {L M Kn N H : List Value} {vk vn : Value}
theorem Z28.later (h : Z28 w W g1 g2 g3 g4 gS gG L M Kn N H vk vn) (b : Below W.heap.size W W') : Z28 w W' g1 g2 g3 g4 gS gG L M Kn N H vk vn :=
  ⟨below_step h.bw b, h.fl, h.fi, var_later h.vs b, var_later h.l b, var_later h.m b, var_later h.k b, var_later h.n b, h.ker.later b, h.nx.later b⟩
theorem Z28.ly (h : Z28 w W g1 g2 g3 g4 gS gG L M Kn N H vk vn) : LY W L [2] [sec1] 1 1 9 (some ⟨gS, 0, none⟩) 1 (some ⟨gG, 0, none⟩) 1 := ly_one h.fl h.vs
theorem kinds2 : ∀ z ∈ ([2] : List Int), 0 ≤ z ∧ z ≤ 255 := fun z hz => by simp at hz; subst hz; omega
theorem few_one : Few [qS] := fun h hh => by simp at hh; subst hh; simp
theorem few_nil : Few [] := fun h hh => by cases hh
theorem Z28.of (h : Z28 w W g1 g2 g3 g4 gS gG L M Kn N H vk vn) :
    Calls Tryz.prog 10 #[.agg L.toArray, .agg M.toArray, .agg Kn.toArray, .agg N.toArray, .int .i64 257, .bool false] W fun e w' => e = .returned (.agg (showL wantS).toArray) ∧ Below W.heap.size W w' := by
  have h1 := Of_c (pI (some ⟨gS, 0, none⟩) 1 (some ⟨gG, 0, none⟩) 1) L M Kn N [sec1] vk [H] [qS] 2 ms0 vn [zRq] [(0, 0)] (-1) 0 0#32 1 257 W h.ly (ima_one h.fl h.vs h.fi) h.ker (by simp) few_one h.nx (by simp)
  rw [wk_of] at h1
  exact h1
theorem Z28.of2 (h : Z28 w W g1 g2 g3 g4 gS gG L M Kn N H vk vn) :
    Calls Tryz.prog 10 #[.agg L.toArray, .agg M.toArray, .agg (kcL 0 (.slice none 0 0) machL).toArray, .agg N.toArray, .int .i64 0, .bool false] W fun e w' => e = .returned (.agg (showL flashS).toArray) ∧ Below W.heap.size W w' := by
  have h1 := Of_c (pI (some ⟨gS, 0, none⟩) 1 (some ⟨gG, 0, none⟩) 1) L M _ N [sec1] _ [] [] 0 ms0 vn [zRq] [(0, 0)] (-1) 0 0#32 1 0 W h.ly (ima_one h.fl h.vs h.fi) (ker_at W 0 _ [] [] (hs_nil W)) (by simp) few_nil h.nx (by simp)
  rw [wk_of2] at h1
  exact h1
theorem Z28.put (h : Z28 w W g1 g2 g3 g4 gS gG L M Kn N H vk vn) :
    Calls Tryz.prog 12 #[.agg L.toArray, .agg (showL wantS).toArray] W fun e w' => Below W.heap.size W w' ∧ ∃ (A' : Option Addr) (c' : Nat), e = .returned (.slice A' 3 c') ∧ w'.ownsRow W.heap.size 5 1 (.slice A' 3 c') 3 (u8s wkB) := by
  refine (Put_c L [2] [sec1] 1 1 9 _ 1 _ 1 wantS W h.ly ⟨by decide, by decide⟩ kinds2).mono ?_
  rintro e w' ⟨b, A', c', B, rfl, ho, hh⟩
  rw [wk_put hh] at ho ⊢
  exact ⟨b, A', c', rfl, ho⟩
theorem Z28.take (h : Z28 w W g1 g2 g3 g4 gS gG L M Kn N H vk vn) {u : Value} (hs : SliceAt W 1 u 3 (u8s wkB)) :
    Calls Tryz.prog 8 #[.agg L.toArray, u] W fun e w' => Below W.heap.size W w' ∧ e = .returned (.tuple #[.agg (showL wantS).toArray, .int .i64 0]) := by
  refine (Take_c L [2] [sec1] 1 1 9 _ 1 _ 1 u wkB W h.ly kinds2 hs (by simp)).mono ?_
  rintro e w' ⟨b, s, r, rfl, ht⟩
  obtain ⟨rfl, rfl⟩ := wk_take ht
  exact ⟨b, rfl⟩
theorem Z28.take4 (h : Z28 w W g1 g2 g3 g4 gS gG L M Kn N H vk vn) {u : Value} (hs : SliceAt W 1 u 4 (u8s (wkB ++ [0#8]))) :
    Calls Tryz.prog 8 #[.agg L.toArray, u] W fun e w' => Below W.heap.size W w' ∧ e = .returned (.tuple #[.agg (showL s0).toArray, .int .i64 41]) := by
  refine (Take_c L [2] [sec1] 1 1 9 _ 1 _ 1 u (wkB ++ [0#8]) W h.ly kinds2 hs (by simp)).mono ?_
  rintro e w' ⟨b, s, r, rfl, ht⟩
  obtain ⟨rfl, rfl⟩ := wk_take4 ht
  exact ⟨b, rfl⟩
theorem Z28.size (h : Z28 w W g1 g2 g3 g4 gS gG L M Kn N H vk vn) :
    Calls Tryz.prog 14 #[.agg L.toArray] W fun e w' => e = .returned (.int .i64 3) ∧ Below W.heap.size W w' :=
  Size_c L [2] [sec1] 1 1 9 _ 1 _ 1 3 W (by rw [wk_size]; rfl) h.ly kinds2
end
theorem own_type28 {W : World} {base e sz n g : Nat} {v : Value} {xs : List Value} (h : W.ownsRow base e sz v n xs) (hg : v.ownBlock = some g) : ∃ cur, W.heap[g]? = some (.cells cur e (0, 0)) := by
  obtain ⟨_, h⟩ := h
  rcases h with ⟨rfl, _⟩ | ⟨g', cap, cur, rfl, _, hg', _⟩
  · cases hg
  · cases hg; exact ⟨cur, hg'⟩
theorem own_mono28 {W : World} {base base' e sz n : Nat} {v : Value} {xs : List Value} (h : W.ownsRow base e sz v n xs) (hb : base' ≤ base) : W.ownsRow base' e sz v n xs := own_base_le h hb
theorem wp_app28 {P : Program} {w : World} {o : Oper} {a : Act} {K : Act → World → Prop} {Q : Exit → Act → World → Prop} (s x : Operand) (t : TypeId)
    (ho : o.op = .call { callee := .builtin .append, args := #[s, x], argTypes := #[t, t] })
    (base : Nat) (e : TypeId) (i : TypeInfo) (z : Value) (size byt : Nat) (ht : P.underlying t = some (.slice e)) (hi : P.info? e = some i) (hz : i.zero = some z)
    (hsize : i.size = size) (hby : i.bytes = byt) (hzs : z.cells.size = size) (hsz : 0 < size)
    (v : Value) (n : Nat) (xs : List Value) (hs : a.eval s = v) (hown : w.ownsRow base e size v n xs) (src : Value) (m : Nat) (news : List Value) (hx : a.eval x = src) (hsrc : SliceAt w size src m news) (h1 : ∀ u ∈ news, u.oneCell' = true)
    (h63 : n + m ≤ maxLen) (hbytes : (n + m) * byt ≤ 140737488355328) (hbase : base ≤ w.heap.size)
    (h : ∀ v' w', w'.ownsRow base e size v' (n + m) (xs ++ news) → w.grownBy w' v.ownBlock → (v'.ownBlock = v.ownBlock ∨ v'.ownBlock = some w.heap.size) → K (a.put o.dst v') w') :
    o.wp P a w K Q := by
  obtain ⟨v', w', hr, h2, h3, h4⟩ := run_append_src (P := P) w base t o.type e i z size byt ht hi hz hsize hby hzs hsz v n xs hown src m news hsrc h1 h63 hbytes hbase
  unfold Oper.wp execOp
  simp only [ho, resolve, invoke, builtin, Sem.run_bind, Sem.run_pure, Result.andThen_ok, List.map_toArray, List.map_cons, List.map_nil, hs, hx, hr]
  exact h v' w' h2 h3 h4
theorem run_bs028 (w : World) : (Instr.buildSlice 53 0 #[]).run Tryz.prog w = .ok (.slice (some ⟨w.heap.size, 0, none⟩) 0 0) (w.alloc (.cells #[] 5)) := by go_simp
theorem run_bs128 (w : World) : (Instr.buildSlice 53 1 #[(0, .int .u8 0)]).run Tryz.prog w = .ok (.slice (some ⟨w.heap.size, 0, none⟩) 1 1) (w.alloc (.cells ([.int .u8 0] : List Value).toArray 5)) := by go_simp
set_option maxRecDepth 100000 in
theorem run_want (W : World) : (Instr.build 52 #[(0, .int .u32 1), (1, .int .u32 1), (3, .int .u32 1), (4, .int .u32 1), (5, .int .u32 1), (6, .int .u32 1), (9, .int .u8 1), (10, .int .i64 1), (11, .int .i64 1)]).run Tryz.prog W = .ok (.agg (showL wantS).toArray) W := by
  go_simp
  rfl
set_option maxRecDepth 100000 in
theorem run_none (W : World) : (Instr.build 52 #[]).run Tryz.prog W = .ok (.agg (showL s0).toArray) W := by
  go_simp
  rfl
section
variable {P : Program} {w : World} {ops : Array Oper} {rest : List Oper} {op : Oper} {a : Act} {Q : Exit → Act → World → Prop}
theorem wpList_load_k (ty : TypeId) (x : Operand) (ho : op.op = .load ty x)
    (b o : Nat) (hx : a.eval x = .pointer (some ⟨b, o, none⟩)) (cs : List Value) (d : TypeDesc) (hc : w.rangeAt b o cs)
    (hu : P.underlying ty = some d) (hd : d.isRow = true) (hi : (P.info? ty).map (·.size) = some cs.length) (hw : Region.wanted op (yielded ops a.tmps) = true)
    (h : wpList P ops Q rest (a.put op.dst (.agg cs.toArray)) w) : wpList P ops Q (op :: rest) a w :=
  wpList_load_g hw ty x ho b o hx cs d hc hu hd hi h
theorem wpList_bld_k (T : TypeId) (ps : List (Nat × Operand)) (vs : List (Nat × Value)) (cs : Value) (ho : op.op = .build T ps.toArray) (hp : ps.map (fun p => (p.1, a.eval p.2)) = vs)
    (hr : (Instr.build T vs.toArray).run P w = .ok cs w) (hw : Region.wanted op (yielded ops a.tmps) = true) (h : wpList P ops Q rest (a.put op.dst cs) w) : wpList P ops Q (op :: rest) a w :=
  wpList_step fun K hK => by rw [if_pos hw]; exact Node.wp_val cs (by subst hp; unfold execOp; simp [ho, hr]) (hK _ _ h)
end
theorem show_zero : ∃ z, (Tryz.prog.info? 52).map (·.zero) = some (some z) ∧ z.cells.size = 12 := by
  have h1 : (((Tryz.prog.info? 52).bind (·.zero)).map (·.cells.size)) = some 12 := by kernel_rfl
  obtain ⟨z, h2, h3⟩ := Option.map_eq_some_iff.1 h1
  obtain ⟨i, h4, h5⟩ := Option.bind_eq_some_iff.1 h2
  exact ⟨z, by rw [h4]; simp [h5], h3⟩
theorem nx_zero : ∃ z, (Tryz.prog.info? 50).map (·.zero) = some (some z) ∧ z.cells.size = 45 := by
  have h1 : (((Tryz.prog.info? 50).bind (·.zero)).map (·.cells.size)) = some 45 := by kernel_rfl
  obtain ⟨z, h2, h3⟩ := Option.map_eq_some_iff.1 h1
  obtain ⟨i, h4, h5⟩ := Option.bind_eq_some_iff.1 h2
  exact ⟨z, by rw [h4]; simp [h5], h3⟩
end Go.Proofs.YtppcdmbpbbjecaaGreat
namespace Go.Proofs.YtppcdmbpbbjecaaGreat
open List renaming getElem_toArray → zA, getElem_cons_succ → zS, getElem_cons_zero → zZ, setIfInBounds_toArray → zP, set_cons_zero → zQ, set_cons_succ → zR
open Go.RowKit Rf Mem Go.ChangeShapes Go.WideShapes Bv AM SM
section
variable {H : Type} {enc : TypeId × Value → H} {w : World}
theorem open_secsK {m : Nat} {cs : List Value} {x : DataW H × List MemPlace} (h : DataW.trod enc Tryz.prog w 0 (fun _ => true) true m 22 cs = some x) :
    ∃ (v : Value) (xs : List Sec), cs = [v] ∧ SliceAt w 11 v xs.length (xs.flatMap (·.1)) ∧ ∀ a ∈ xs, (AllOne a.1 ∧ a.1[0]? = some (.int .u8 (kindOf a.1))) ∧ 0 ≤ kindOf a.1 ∧ kindOf a.1 ≤ 255 := by
  refine open_cs (sz := 11) (fun a : Sec => a.1) (fun a => (AllOne a.1 ∧ a.1[0]? = some (.int .u8 (kindOf a.1))) ∧ 0 ≤ kindOf a.1 ∧ kindOf a.1 ≤ 255) (fun a => a.2) (by omega) Tryz.underlying22 (by kernel_rfl) (fun m cs x hl ht => ?_) h
  suffices hs : cs[0]? = some (.int .u8 (kindOf cs)) ∧ 0 ≤ kindOf cs ∧ kindOf cs ≤ 255 from ⟨⟨cs, hl⟩, ⟨⟨sec_one ht, hs.1⟩, hs.2⟩, rfl⟩
  obtain ⟨ys, n, _, _, _, hlen, hel⟩ := DataW.trod_struct Tryz.underlying96 ht
  have h0 := hel 0 _ rfl
  obtain ⟨y, hy⟩ : ∃ y, ys[0]? = some y := ⟨_, List.getElem?_eq_getElem (by rw [hlen]; decide)⟩
  obtain ⟨z, hz, _, hw⟩ := DataW.trod_int Tryz.underlying5 (h0.trans hy)
  have hb : 0 ≤ z ∧ z ≤ 255 := by simpa [Lit.wf, IntKind.min, IntKind.max, IntKind.signed, IntKind.bits] using hw
  have hc : Tryz.prog.cellsOf 5 = 1 := by kernel_rfl
  have h1 : cs[0]? = some (.int .u8 z) := by
    have := congrArg (·[0]?) hz
    simp only [hc, List.drop_zero, List.getElem?_take] at this
    exact (by simpa using this : _ ∧ _).2
  simp only [kindOf, h1]
  exact ⟨trivial, hb⟩
set_option maxRecDepth 100000 in
theorem open_layoutK {base : Nat} {v : Value} {d : DataW H} {p : List MemPlace} (hv : Value.okWide Tryz.prog w .any base 29 v) (h : DataW.Trod enc Tryz.prog w 0 (fun _ => true) true 29 v d p) :
    ∃ (L : List Value) (kinds : List Int) (ss : List (List Value)) (lens : List Nat) (nsig nfl : Nat) (clr st : Int) (A : Option Addr) (c : Nat) (A1 : Option Addr) (c1 : Nat) (A3 : Option Addr) (c3 : Nat) (ve : Value),
      v = .agg L.toArray ∧ LayA w L kinds ss lens nsig nfl clr st A c A1 c1 A3 c3 ve ∧ ∀ z ∈ kinds, 0 ≤ z ∧ z ≤ 255 := by
  obtain ⟨cs, rfl, hsz⟩ := okWide_struct Tryz.underlying29 hv
  obtain ⟨L⟩ := cs
  obtain ⟨fuel, hf⟩ := h
  simp only [Value.cells] at hf
  have hone := lay_one hf
  have hlen : L.length = 11 := hsz.trans (by kernel_rfl)
  obtain ⟨ys, n, _, _, _, hyl, hel⟩ := DataW.trod_struct Tryz.underlying29 hf
  have gy : ∀ i, i < 5 → ∃ y, ys[i]? = some y := fun i hi => ⟨_, List.getElem?_eq_getElem (by rw [hyl]; exact hi)⟩
  obtain ⟨y0, e0⟩ := gy 0 (by omega)
  obtain ⟨y1, e1⟩ := gy 1 (by omega)
  obtain ⟨y2, e2⟩ := gy 2 (by omega)
  obtain ⟨y3, e3⟩ := gy 3 (by omega)
  obtain ⟨y4, e4⟩ := gy 4 (by omega)
  obtain ⟨v0, xs, h0, h0s, h0k⟩ := open_secsK (show DataW.trod enc Tryz.prog w 0 (fun _ => true) true n 22 ((L.drop 0).take (Tryz.prog.cellsOf 22)) = some y0 from (hel 0 _ rfl).trans e0)
  obtain ⟨A1, nsig, c1, h1⟩ := slice_at Tryz.underlying23 (by kernel_rfl) (show DataW.trod enc Tryz.prog w 0 (fun _ => true) true n 23 ((L.drop 1).take (Tryz.prog.cellsOf 23)) = some y1 from (hel 1 _ rfl).trans e1)
  obtain ⟨v2, xe, h2, h2s, h2k⟩ := open_exits (show DataW.trod enc Tryz.prog w 0 (fun _ => true) true n 24 ((L.drop 2).take (Tryz.prog.cellsOf 24)) = some y2 from (hel 2 _ rfl).trans e2)
  obtain ⟨A3, nfl, c3, h3⟩ := slice_at Tryz.underlying25 (by kernel_rfl) (show DataW.trod enc Tryz.prog w 0 (fun _ => true) true n 25 ((L.drop 3).take (Tryz.prog.cellsOf 25)) = some y3 from (hel 3 _ rfl).trans e3)
  have k0 : Tryz.prog.cellsOf 22 = 1 := by kernel_rfl
  have k2 : Tryz.prog.cellsOf 24 = 1 := by kernel_rfl
  rw [k0] at h0
  rw [k2] at h2
  have g0 := at_of h0
  have g2 := at_of h2
  obtain ⟨zs, n4, _, _, _, hzl, hel4⟩ := DataW.trod_struct Tryz.underlying27 (show DataW.trod enc Tryz.prog w 0 (fun _ => true) true n 27 ((L.drop 4).take (Tryz.prog.cellsOf 27)) = some y4 from (hel 4 _ rfl).trans e4)
  have gz : ∀ i, i < 7 → ∃ y, zs[i]? = some y := fun i hi => ⟨_, List.getElem?_eq_getElem (by rw [hzl]; exact hi)⟩
  obtain ⟨z0, f0⟩ := gz 0 (by omega)
  obtain ⟨z2, f2⟩ := gz 2 (by omega)
  obtain ⟨clr, q0, w0⟩ := int_at (show DataW.trod enc Tryz.prog w 0 (fun _ => true) true n4 3 ((((L.drop 4).take (Tryz.prog.cellsOf 27)).drop 0).take (Tryz.prog.cellsOf 3)) = some z0 from (hel4 0 _ rfl).trans f0)
  obtain ⟨st, q2, w2⟩ := int_at (show DataW.trod enc Tryz.prog w 0 (fun _ => true) true n4 3 ((((L.drop 4).take (Tryz.prog.cellsOf 27)).drop 2).take (Tryz.prog.cellsOf 3)) = some z2 from (hel4 2 _ rfl).trans f2)
  have hc4 : Tryz.prog.cellsOf 27 = 7 := by kernel_rfl
  simp only [hc4, List.getElem?_take, List.getElem?_drop] at q0 q2
  obtain ⟨A, c, hv0, hsa, hsr⟩ := secs_of h0s (fun a ha => (h0k a ha).1)
  subst hv0
  exact ⟨L, _, _, _, nsig, nfl, clr, st, A, c, A1, c1, A3, c3, v2, rfl, ⟨⟨hlen, g0, h1, by simpa using q0, by simpa using q2⟩, g2, h3, hsa, by simp, hsr, exits_of h2s h2k, hone, w0, w2⟩, fun z hz => by
    obtain ⟨a, ha, rfl⟩ := List.mem_map.1 hz
    exact (h0k a ha).2⟩
theorem u32_at {m o : Nat} {cs : List Value} {y : DataW H × List MemPlace} (h : DataW.trod enc Tryz.prog w 0 (fun _ => true) true m 31 ((cs.drop o).take (Tryz.prog.cellsOf 31)) = some y) : ∃ s : BitVec 32, cs[o]? = some (.int .u32 s.toNat) := by
  have hc : Tryz.prog.cellsOf 31 = 1 := by kernel_rfl
  rw [hc] at h
  obtain ⟨z, hz, _, hw⟩ := DataW.trod_int Tryz.underlying31 h
  obtain ⟨s, rfl⟩ := of_u32 hw
  exact ⟨s, at_of hz⟩
theorem islice_at {m o : Nat} {cs : List Value} {y : DataW H × List MemPlace} (h : DataW.trod enc Tryz.prog w 0 (fun _ => true) true m 42 ((cs.drop o).take (Tryz.prog.cellsOf 42)) = some y) : ∃ A n c, cs[o]? = some (.slice A n c) ∧ n ≤ 9223372036854775807 := by
  have hc : Tryz.prog.cellsOf 42 = 1 := by kernel_rfl
  rw [hc] at h
  obtain ⟨v, as_, hv, hsl, _⟩ := open_cs (sz := 1) (fun a : { l : List Value // l.length = 1 } => a.1) (fun _ => True) (fun a => a.2) (by omega) Tryz.underlying42 (by kernel_rfl) (fun k ds x hl hx => ⟨⟨ds, hl⟩, trivial, rfl⟩) h
  obtain ⟨A, c, rfl, h1, h2⟩ := hsl.form
  exact ⟨A, _, c, at_of hv, Nat.le_trans h1 h2⟩
theorem rq_one {m : Nat} {cs : List Value} {x : DataW H × List MemPlace} (h : DataW.trod enc Tryz.prog w 0 (fun _ => true) true m 47 cs = some x) : AllOne cs := by
  refine all_struct Tryz.underlying47 (by kernel_rfl) (fun f hf m cs x h => ?_) h
  simp only [List.mem_cons, List.not_mem_nil, or_false] at hf
  rcases hf with rfl | rfl | rfl
  · exact all_int Tryz.underlying3 h
  · exact all_int Tryz.underlying3 h
  · exact all_slice Tryz.underlying42 h
theorem desk_one {m : Nat} {cs : List Value} {x : DataW H × List MemPlace} (h : DataW.trod enc Tryz.prog w 0 (fun _ => true) true m 44 cs = some x) : AllOne cs := by
  refine all_struct Tryz.underlying44 (by kernel_rfl) (fun f hf m cs x h => ?_) h
  simp only [List.mem_cons, List.not_mem_nil, or_false] at hf
  rcases hf with rfl | rfl | rfl | rfl | rfl
  · exact all_int Tryz.underlying3 h
  · exact all_slice Tryz.underlying42 h
  · exact all_int Tryz.underlying3 h
  · exact all_int Tryz.underlying5 h
  · exact all_int Tryz.underlying3 h
theorem nx_one {m : Nat} {cs : List Value} {x : DataW H × List MemPlace} (h : DataW.trod enc Tryz.prog w 0 (fun _ => true) true m 50 cs = some x) : AllOne cs := by
  refine all_struct Tryz.underlying50 (by kernel_rfl) (fun f hf m cs x h => ?_) h
  simp only [List.mem_cons, List.not_mem_nil, or_false] at hf
  rcases hf with rfl | rfl | rfl | rfl | rfl | rfl
  · exact desk_one h
  · exact all_slice Tryz.underlying45 h
  · exact all_int Tryz.underlying31 h
  · exact all_array Tryz.underlying48 (by kernel_rfl) (fun _ _ _ h => rq_one h) h
  · exact all_int Tryz.underlying31 h
  · exact all_int Tryz.underlying5 h
abbrev Rqs := { l : List Value // l.length = 3 }
theorem open_rqs {m o : Nat} {cs : List Value} {y : DataW H × List MemPlace} (h : DataW.trod enc Tryz.prog w 0 (fun _ => true) true m 45 ((cs.drop o).take (Tryz.prog.cellsOf 45)) = some y) : ∃ (v : Value) (rss : List (List Value)) (rq : List (Int × Nat)), cs[o]? = some v ∧ RqsAt w v rss rq ∧ ∀ r ∈ rq, r.2 ≤ 9223372036854775807 := by
  have hct : Tryz.prog.cellsOf 45 = 1 := by kernel_rfl
  rw [hct] at h
  obtain ⟨v, as_, hv, hsl, hok⟩ := open_cs (sz := 3) (fun a : Rqs => a.1) (fun a => AllOne a.1 ∧ ∃ r : Int × Nat, r.2 ≤ 9223372036854775807 ∧ a.1[0]? = some (.int .i64 r.1) ∧ ∃ A c, a.1[2]? = some (.slice A r.2 c)) (fun a => a.2) (by omega) Tryz.underlying45 (by kernel_rfl)
    (fun k ds x hl hx => by
      refine ⟨⟨ds, hl⟩, ⟨rq_one hx, ?_⟩, rfl⟩
      obtain ⟨ys, n, _, _, _, hyl, hel⟩ := DataW.trod_struct Tryz.underlying47 hx
      have gy : ∀ i, i < 3 → ∃ y, ys[i]? = some y := fun i hi => ⟨_, List.getElem?_eq_getElem (by rw [hyl]; exact hi)⟩
      obtain ⟨y0, e0⟩ := gy 0 (by omega)
      obtain ⟨y2, e2⟩ := gy 2 (by omega)
      obtain ⟨z, h0⟩ := aint_at (show DataW.trod enc Tryz.prog w 0 (fun _ => true) true n 3 ((ds.drop 0).take (Tryz.prog.cellsOf 3)) = some y0 from (hel 0 _ rfl).trans e0)
      obtain ⟨A, l, c, h2, hb⟩ := islice_at (show DataW.trod enc Tryz.prog w 0 (fun _ => true) true n 42 ((ds.drop 2).take (Tryz.prog.cellsOf 42)) = some y2 from (hel 2 _ rfl).trans e2)
      exact ⟨(z, l), hb, h0, A, c, h2⟩) h
  obtain ⟨rq, hrl, hq⟩ := choose_list (Q := fun i (r : Int × Nat) => ∀ a, as_[i]? = some a → r.2 ≤ 9223372036854775807 ∧ a.1[0]? = some (.int .i64 r.1) ∧ ∃ A c, a.1[2]? = some (.slice A r.2 c)) as_.length (fun i hi => by
    obtain ⟨_, r, hr⟩ := hok _ (List.getElem_mem hi)
    refine ⟨r, fun a ha => ?_⟩
    rw [List.getElem?_eq_getElem hi] at ha
    cases ha
    exact hr)
  refine ⟨v, as_.map (·.1), rq, ?_, ⟨by rw [List.length_map, hrl], ?_, ?_, ?_, ?_⟩, ?_⟩
  · have := congrArg (·[0]?) hv
    simpa using this
  · rintro cs hcs
    obtain ⟨a, _, rfl⟩ := List.mem_map.1 hcs
    exact a.2
  · rintro cs hcs
    obtain ⟨a, ha, rfl⟩ := List.mem_map.1 hcs
    exact (hok a ha).1
  · rw [List.length_map, List.flatMap_map]; exact hsl
  · rintro i cs q h1 h2
    rw [List.getElem?_map] at h1
    obtain ⟨a, ha, rfl⟩ := Option.map_eq_some_iff.1 h1
    exact (hq i q h2 a ha).2
  · rintro r hr
    obtain ⟨i, hi⟩ := List.getElem?_of_mem hr
    have hlt : i < as_.length := by have := (List.getElem?_eq_some_iff.1 hi).1; omega
    exact (hq i r hi _ (List.getElem?_eq_getElem hlt)).1
set_option maxRecDepth 100000 in
theorem open_nx {base : Nat} {v : Value} {d : DataW H} {p : List MemPlace} (hv : Value.okWide Tryz.prog w .any base 50 v) (h : DataW.Trod enc Tryz.prog w 0 (fun _ => true) true 50 v d p) :
    ∃ (N : List Value) (vr : Value) (rss : List (List Value)) (rq : List (Int × Nat)) (ds : Int) (dv : Nat) (au : BitVec 32) (code : Int), v = .agg N.toArray ∧ NxAt w N vr rss rq ds dv au code ∧ (0 ≤ code ∧ code ≤ 255) ∧ dv ≤ 9223372036854775807 ∧ ∀ r ∈ rq, r.2 ≤ 9223372036854775807 := by
  obtain ⟨cs, rfl, hsz⟩ := okWide_struct Tryz.underlying50 hv
  obtain ⟨N⟩ := cs
  obtain ⟨fuel, hf⟩ := h
  simp only [Value.cells] at hf
  have hone := nx_one hf
  have hlen : N.length = 45 := hsz.trans (by kernel_rfl)
  obtain ⟨ys, n, _, _, _, hyl, hel⟩ := DataW.trod_struct Tryz.underlying50 hf
  have gy : ∀ i, i < 6 → ∃ y, ys[i]? = some y := fun i hi => ⟨_, List.getElem?_eq_getElem (by rw [hyl]; exact hi)⟩
  obtain ⟨y0, e0⟩ := gy 0 (by omega)
  obtain ⟨y1, e1⟩ := gy 1 (by omega)
  obtain ⟨y2, e2⟩ := gy 2 (by omega)
  obtain ⟨y5, e5⟩ := gy 5 (by omega)
  obtain ⟨zs, n4, _, _, _, hzl, hel4⟩ := DataW.trod_struct Tryz.underlying44 (show DataW.trod enc Tryz.prog w 0 (fun _ => true) true n 44 ((N.drop 0).take (Tryz.prog.cellsOf 44)) = some y0 from (hel 0 _ rfl).trans e0)
  have gz : ∀ i, i < 5 → ∃ y, zs[i]? = some y := fun i hi => ⟨_, List.getElem?_eq_getElem (by rw [hzl]; exact hi)⟩
  obtain ⟨z0, f0⟩ := gz 0 (by omega)
  obtain ⟨z1, f1⟩ := gz 1 (by omega)
  obtain ⟨ds, q0⟩ := aint_at (show DataW.trod enc Tryz.prog w 0 (fun _ => true) true n4 3 ((((N.drop 0).take (Tryz.prog.cellsOf 44)).drop 0).take (Tryz.prog.cellsOf 3)) = some z0 from (hel4 0 _ rfl).trans f0)
  obtain ⟨A, dv, c, q1, hdv⟩ := islice_at (show DataW.trod enc Tryz.prog w 0 (fun _ => true) true n4 42 ((((N.drop 0).take (Tryz.prog.cellsOf 44)).drop 1).take (Tryz.prog.cellsOf 42)) = some z1 from (hel4 1 _ rfl).trans f1)
  have hcd : Tryz.prog.cellsOf 44 = 5 := by kernel_rfl
  simp only [hcd, List.getElem?_take, List.getElem?_drop] at q0 q1
  obtain ⟨vr, rss, rq, h1, h2, hvs⟩ := open_rqs (show DataW.trod enc Tryz.prog w 0 (fun _ => true) true n 45 ((N.drop 5).take (Tryz.prog.cellsOf 45)) = some y1 from (hel 1 _ rfl).trans e1)
  obtain ⟨au, h6⟩ := u32_at (show DataW.trod enc Tryz.prog w 0 (fun _ => true) true n 31 ((N.drop 6).take (Tryz.prog.cellsOf 31)) = some y2 from (hel 2 _ rfl).trans e2)
  obtain ⟨code, h44, hc1, hc2⟩ := au8_at (show DataW.trod enc Tryz.prog w 0 (fun _ => true) true n 5 ((N.drop 44).take (Tryz.prog.cellsOf 5)) = some y5 from (hel 5 _ rfl).trans e5)
  exact ⟨N, vr, rss, rq, ds, dv, au, code, rfl, ⟨hlen, hone, by simpa using q0, ⟨A, c, by simpa using q1⟩, h1, h2, h6, h44⟩, ⟨hc1, hc2⟩, hdv, hvs⟩
theorem list12 {α : Type} {l : List α} {a b c d e f g h i j k m : α} (hl : l.length = 12) (h0 : l[0]? = some a) (h1 : l[1]? = some b) (h2 : l[2]? = some c) (h3 : l[3]? = some d) (h4 : l[4]? = some e) (h5 : l[5]? = some f) (h6 : l[6]? = some g) (h7 : l[7]? = some h) (h8 : l[8]? = some i) (h9 : l[9]? = some j) (h10 : l[10]? = some k) (h11 : l[11]? = some m) : l = [a, b, c, d, e, f, g, h, i, j, k, m] := by
  match l, hl with
  | [x0, x1, x2, x3, x4, x5, x6, x7, x8, x9, x10, x11], _ =>
    simp only [List.getElem?_cons_zero, List.getElem?_cons_succ, Option.some.injEq] at *
    subst_vars
    rfl
set_option maxRecDepth 100000 in
theorem open_show {base : Nat} {v : Value} {d : DataW H} {p : List MemPlace} (hv : Value.okWide Tryz.prog w .any base 52 v) (h : DataW.Trod enc Tryz.prog w 0 (fun _ => true) true 52 v d p) :
    ∃ s : ShowM, v = .agg (showL s).toArray ∧ ShOk s := by
  obtain ⟨cs, rfl, hsz⟩ := okWide_struct Tryz.underlying52 hv
  obtain ⟨S⟩ := cs
  obtain ⟨fuel, hf⟩ := h
  simp only [Value.cells] at hf
  have hlen : S.length = 12 := hsz.trans (by kernel_rfl)
  obtain ⟨ys, n, _, _, _, hyl, hel⟩ := DataW.trod_struct Tryz.underlying52 hf
  have gy : ∀ i, i < 12 → ∃ y, ys[i]? = some y := fun i hi => ⟨_, List.getElem?_eq_getElem (by rw [hyl]; exact hi)⟩
  obtain ⟨y0, e0⟩ := gy 0 (by omega)
  obtain ⟨y1, e1⟩ := gy 1 (by omega)
  obtain ⟨y2, e2⟩ := gy 2 (by omega)
  obtain ⟨y3, e3⟩ := gy 3 (by omega)
  obtain ⟨y4, e4⟩ := gy 4 (by omega)
  obtain ⟨y5, e5⟩ := gy 5 (by omega)
  obtain ⟨y6, e6⟩ := gy 6 (by omega)
  obtain ⟨y7, e7⟩ := gy 7 (by omega)
  obtain ⟨y8, e8⟩ := gy 8 (by omega)
  obtain ⟨y9, e9⟩ := gy 9 (by omega)
  obtain ⟨y10, e10⟩ := gy 10 (by omega)
  obtain ⟨y11, e11⟩ := gy 11 (by omega)
  obtain ⟨s0, h0⟩ := u32_at (show DataW.trod enc Tryz.prog w 0 (fun _ => true) true n 31 ((S.drop 0).take (Tryz.prog.cellsOf 31)) = some y0 from (hel 0 _ rfl).trans e0)
  obtain ⟨s1, h1⟩ := u32_at (show DataW.trod enc Tryz.prog w 0 (fun _ => true) true n 31 ((S.drop 1).take (Tryz.prog.cellsOf 31)) = some y1 from (hel 1 _ rfl).trans e1)
  obtain ⟨s2, h2⟩ := u32_at (show DataW.trod enc Tryz.prog w 0 (fun _ => true) true n 31 ((S.drop 2).take (Tryz.prog.cellsOf 31)) = some y2 from (hel 2 _ rfl).trans e2)
  obtain ⟨s3, h3⟩ := u32_at (show DataW.trod enc Tryz.prog w 0 (fun _ => true) true n 31 ((S.drop 3).take (Tryz.prog.cellsOf 31)) = some y3 from (hel 3 _ rfl).trans e3)
  obtain ⟨s4, h4⟩ := u32_at (show DataW.trod enc Tryz.prog w 0 (fun _ => true) true n 31 ((S.drop 4).take (Tryz.prog.cellsOf 31)) = some y4 from (hel 4 _ rfl).trans e4)
  obtain ⟨s5, h5⟩ := u32_at (show DataW.trod enc Tryz.prog w 0 (fun _ => true) true n 31 ((S.drop 5).take (Tryz.prog.cellsOf 31)) = some y5 from (hel 5 _ rfl).trans e5)
  obtain ⟨s6, h6⟩ := u32_at (show DataW.trod enc Tryz.prog w 0 (fun _ => true) true n 31 ((S.drop 6).take (Tryz.prog.cellsOf 31)) = some y6 from (hel 6 _ rfl).trans e6)
  obtain ⟨s7, h7⟩ := u32_at (show DataW.trod enc Tryz.prog w 0 (fun _ => true) true n 31 ((S.drop 7).take (Tryz.prog.cellsOf 31)) = some y7 from (hel 7 _ rfl).trans e7)
  obtain ⟨s8, h8⟩ := u32_at (show DataW.trod enc Tryz.prog w 0 (fun _ => true) true n 31 ((S.drop 8).take (Tryz.prog.cellsOf 31)) = some y8 from (hel 8 _ rfl).trans e8)
  obtain ⟨s9, h9, b9⟩ := au8_at (show DataW.trod enc Tryz.prog w 0 (fun _ => true) true n 5 ((S.drop 9).take (Tryz.prog.cellsOf 5)) = some y9 from (hel 9 _ rfl).trans e9)
  obtain ⟨s10, h10, b10⟩ := int_at (show DataW.trod enc Tryz.prog w 0 (fun _ => true) true n 3 ((S.drop 10).take (Tryz.prog.cellsOf 3)) = some y10 from (hel 10 _ rfl).trans e10)
  obtain ⟨s11, h11, b11⟩ := int_at (show DataW.trod enc Tryz.prog w 0 (fun _ => true) true n 3 ((S.drop 11).take (Tryz.prog.cellsOf 3)) = some y11 from (hel 11 _ rfl).trans e11)
  refine ⟨⟨s0, s1, s2, s3, s4, s5, s6, s7, s8, s9, s10, s11⟩, ?_, ⟨b9, b10, b11⟩⟩
  rw [list12 hlen h0 h1 h2 h3 h4 h5 h6 h7 h8 h9 h10 h11]; rfl
end
end Go.Proofs.YtppcdmbpbbjecaaGreat
namespace Go.Proofs.YtppcdmbpbbjecaaGreat
open List renaming getElem_toArray → zA, getElem_cons_succ → zS, getElem_cons_zero → zZ, setIfInBounds_toArray → zP, set_cons_zero → zQ, set_cons_succ → zR
open Go.RowKit Rf Mem Bv AM SM Bits
theorem rowN_none (Q : Nat → Bool) : ∀ n, (∀ i, Q i = false) → rowN Q n = 0#32
  | 0, _ => rfl
  | n + 1, h => by rw [rowN, rowN_none Q n h, h n]; rfl
theorem occ_stale (I : IM) (h : I.stale = true) (n : Int) : I.occB n = true := by unfold IM.occB occV; rw [h]; simp
theorem stand_stale (I : IM) (h : I.stale = true) (n : Int) : I.stand n = -1 := by unfold IM.stand atV; rw [h]; simp
theorem lit_stale (I : IM) (h : I.stale = true) (n : Int) : I.litB n = false := by unfold IM.litB litV; rw [h]; simp
theorem of_stale (I : IM) (h : I.stale = true) (hs : List HeldM) (rq : List (Int × Nat)) (ds : Int) (au : BitVec 32) (code errs : Int) :
    (ofM I hs rq ds au code errs).clear = 0#32 ∧ (ofM I hs rq ds au code errs).normal = 0#32 ∧ (ofM I hs rq ds au code errs).reverse = 0#32 ∧ (ofM I hs rq ds au code errs).off = 0#32 := by
  refine ⟨rowN_none _ _ (fun i => by rw [occ_stale I h]; rfl), rowN_none _ _ (fun i => by rw [stand_stale I h]; simp), rowN_none _ _ (fun i => by rw [stand_stale I h]; simp), ?_⟩
  have hc : ∀ q, clearB I.stand I.occB I.litB q = false := fun q => by unfold clearB; simp [lit_stale I h]
  have hz : sigW (clearB I.stand I.occB I.litB) hs = 0#32 := by
    generalize clearB I.stand I.occB I.litB = cl at hc ⊢
    induction hs with
    | nil => rfl
    | cons q r ih => rw [sigW, ih, hc q]; unfold sigBit; simp
  show sigW _ _ &&& _ = _
  rw [hz]; simp
end Go.Proofs.YtppcdmbpbbjecaaGreat
namespace Go.Proofs.YtppcdmbpbbjecaaGreat
open List renaming getElem_toArray → zA, getElem_cons_succ → zS, getElem_cons_zero → zZ, setIfInBounds_toArray → zP, set_cons_zero → zQ, set_cons_succ → zR
open Go.RowKit Rf Mem Bv AM SM Bits
theorem rd_pre {a b : List Fld} (rest : List Bool) {f : Fld} {n : Nat} (hn : n = sumW a) (hf : f.1 < 2 ^ f.2) : rd (fbits (a ++ f :: b) ++ rest) n f.2 = f.1 := by
  subst hn
  have e2 : fbits (a ++ f :: b) = fbits a ++ (numBits f.1 f.2 ++ fbits b) := by simp [fbits]
  unfold rd
  rw [e2, List.append_assoc, List.drop_append_of_le_length (by rw [fbits_len]; exact Nat.le_refl _)]
  rw [show (fbits a).drop (sumW a) = [] from by rw [List.drop_eq_nil_iff, fbits_len]; exact Nat.le_refl _]
  rw [List.nil_append, List.append_assoc, List.take_append_of_le_length (by rw [numBits_length]; exact Nat.le_refl _)]
  rw [List.take_of_length_le (by rw [numBits_length]; exact Nat.le_refl _), num_numBits, Nat.mod_eq_of_lt hf]
theorem orB_bit (z : BitVec 32) (i : Nat) (b : Bool) (j : Nat) : (orB z i b).getLsbD j = (z.getLsbD j || (b && decide (j = i) && decide (i < 32))) := by
  unfold orB
  cases b with
  | false => simp
  | true =>
    rw [if_pos rfl, BitVec.getLsbD_or, BitVec.getLsbD_twoPow]
    by_cases h : j = i
    · subst h; simp
    · have h' : ¬ i = j := fun e => h e.symm
      simp [h, h']
/-- a row's bits, as far as they were read -/
structure RowOk (z : BitVec 32) (n : Nat) (p : Nat → Bool) : Prop where
  lo : ∀ i, i < n → z.getLsbD i = p i
  hi : ∀ i, n ≤ i → z.getLsbD i = false
theorem rowOk_zero (p : Nat → Bool) : RowOk 0#32 0 p := ⟨fun i h => by omega, fun i _ => by simp⟩
theorem RowOk.next {z : BitVec 32} {n : Nat} {p : Nat → Bool} (h : RowOk z n p) (hn : n < 32) {b : Bool} (hb : b = p n) : RowOk (orB z n b) (n + 1) p := by
  refine ⟨fun i hi => ?_, fun i hi => ?_⟩
  · rw [orB_bit]
    by_cases e : i = n
    · subst e; rw [h.hi i (Nat.le_refl _), hb]; simp [hn]
    · rw [h.lo i (by omega)]; simp [e]
  · rw [orB_bit, h.hi i (by omega)]
    have : ¬ i = n := by omega
    simp [this]
theorem RowOk.skip {z : BitVec 32} {n : Nat} {p : Nat → Bool} (h : RowOk z n p) (hp : p n = false) : RowOk z (n + 1) p := by
  refine ⟨fun i hi => ?_, fun i hi => h.hi i (by omega)⟩
  by_cases e : i = n
  · subst e; rw [h.hi i (Nat.le_refl _), hp]
  · exact h.lo i (by omega)
theorem secsF_add (s : ShowM) (kinds : List Int) (n d : Nat) : ∃ t, secsF s kinds (n + d) = secsF s kinds n ++ t := by
  unfold secsF
  rw [List.range_add, List.flatMap_append]
  exact ⟨_, rfl⟩
theorem sigsF_add (s : ShowM) (n d : Nat) : ∃ t, sigsF s (n + d) = sigsF s n ++ t := by
  unfold sigsF
  rw [List.range_add, List.flatMap_append]
  exact ⟨_, rfl⟩
theorem flds_sec (s : ShowM) (kinds : List Int) (nsig n : Nat) (hn : n < min kinds.length 24) : ∃ t, flds s kinds nsig = secsF s kinds n ++ (secF s kinds n ++ t) := by
  obtain ⟨t, ht⟩ := secsF_add s kinds (n + 1) (min kinds.length 24 - (n + 1))
  rw [show n + 1 + (min kinds.length 24 - (n + 1)) = min kinds.length 24 by omega, secsF_succ] at ht
  exact ⟨t ++ (sigsF s (min nsig 12) ++ endF s), by unfold flds; rw [ht]; simp⟩
theorem flds_sig (s : ShowM) (kinds : List Int) (nsig n : Nat) (hn : n < min nsig 12) : ∃ t, flds s kinds nsig = (secsF s kinds (min kinds.length 24) ++ sigsF s n) ++ (sigF s n ++ t) := by
  obtain ⟨t, ht⟩ := sigsF_add s (n + 1) (min nsig 12 - (n + 1))
  rw [show n + 1 + (min nsig 12 - (n + 1)) = min nsig 12 by omega, sigsF_succ] at ht
  exact ⟨t ++ endF s, by unfold flds; rw [ht]; simp⟩
theorem bit_b (x : BitVec 32) (i : Nat) : (bitN x i == 1) = x.getLsbD i := by unfold bitN; cases x.getLsbD i <;> rfl
theorem lamp_1 (a b : BitVec 32) (i : Nat) : (lampN a b i == 1) = (a.getLsbD i && !b.getLsbD i) := by unfold lampN; cases a.getLsbD i <;> cases b.getLsbD i <;> rfl
theorem lamp_2 (a b : BitVec 32) (i : Nat) : (lampN a b i == 2) = (b.getLsbD i && !a.getLsbD i) := by unfold lampN; cases a.getLsbD i <;> cases b.getLsbD i <;> rfl
theorem bit_lt (x : BitVec 32) (i : Nat) : bitN x i < 2 ^ 1 := by unfold bitN; cases x.getLsbD i <;> decide
theorem lamp_lt (a b : BitVec 32) (i : Nat) : lampN a b i < 2 ^ 2 := by unfold lampN; split <;> (try split) <;> decide
def pt (kinds : List Int) (i : Nat) : Bool := kinds.getD i 0 == 2
/-- what is read of the sections -/
structure SecOk (s t : ShowM) (kinds : List Int) (n : Nat) : Prop where
  clear : RowOk t.clear n (fun i => s.clear.getLsbD i)
  held : RowOk t.held n (fun i => s.held.getLsbD i)
  normal : RowOk t.normal n (fun i => pt kinds i && (s.normal.getLsbD i && !s.reverse.getLsbD i))
  reverse : RowOk t.reverse n (fun i => pt kinds i && (s.reverse.getLsbD i && !s.normal.getLsbD i))
  locked : RowOk t.locked n (fun i => pt kinds i && s.locked.getLsbD i)
  off : t.off = 0#32
  steady : t.steady = 0#32
  flash : t.flash = 0#32
  autos : t.autos = 0#32
theorem secOk (s : ShowM) (kinds : List Int) (nsig : Nat) (rest : List Bool) : ∀ n, n ≤ min kinds.length 24 → SecOk s (dSecs (fbits (flds s kinds nsig) ++ rest) kinds n).1 kinds n
  | 0, _ => ⟨rowOk_zero _, rowOk_zero _, rowOk_zero _, rowOk_zero _, rowOk_zero _, rfl, rfl, rfl, rfl⟩
  | n + 1, hn => by
    have ih := secOk s kinds nsig rest n (by omega)
    obtain ⟨t, ht⟩ := flds_sec s kinds nsig n (by omega)
    have hp := dSecs_pos (fbits (flds s kinds nsig) ++ rest) kinds s n
    rw [dSecs]
    generalize dSecs (fbits (flds s kinds nsig) ++ rest) kinds n = D at *
    obtain ⟨D1, D2⟩ := D
    simp only at ih hp
    rw [ht]
    have hn32 : n < 32 := by omega
    cases hk : (kinds.getD n 0 == 2) with
    | false =>
      have e : secF s kinds n = [(bitN s.clear n, 1), (bitN s.held n, 1)] := by unfold secF; rw [hk]; rfl
      rw [e]
      have r1 := rd_pre (f := (bitN s.clear n, 1)) (a := secsF s kinds n) (b := (bitN s.held n, 1) :: t) rest hp (bit_lt s.clear n)
      have r2 := rd_pre (f := (bitN s.held n, 1)) (a := secsF s kinds n ++ [(bitN s.clear n, 1)]) (b := t) (n := D2 + 1) rest (by rw [sumW_append, ← hp]; rfl) (bit_lt s.held n)
      simp only [List.append_assoc, List.cons_append, List.nil_append] at r1 r2 ⊢
      unfold dSec
      rw [hk]
      simp only [r1, r2, bit_b, if_false, Bool.false_eq_true]
      have hpt : pt kinds n = false := hk
      exact ⟨ih.clear.next hn32 rfl, ih.held.next hn32 rfl, ih.normal.skip (by rw [hpt]; rfl), ih.reverse.skip (by rw [hpt]; rfl), ih.locked.skip (by rw [hpt]; rfl), ih.off, ih.steady, ih.flash, ih.autos⟩
    | true =>
      have e : secF s kinds n = [(bitN s.clear n, 1), (bitN s.held n, 1), (lampN s.normal s.reverse n, 2), (bitN s.locked n, 1)] := by unfold secF; rw [hk]; rfl
      rw [e]
      have r1 := rd_pre (f := (bitN s.clear n, 1)) (a := secsF s kinds n) (b := (bitN s.held n, 1) :: (lampN s.normal s.reverse n, 2) :: (bitN s.locked n, 1) :: t) rest hp (bit_lt s.clear n)
      have r2 := rd_pre (f := (bitN s.held n, 1)) (a := secsF s kinds n ++ [(bitN s.clear n, 1)]) (b := (lampN s.normal s.reverse n, 2) :: (bitN s.locked n, 1) :: t) (n := D2 + 1) rest (by rw [sumW_append, ← hp]; rfl) (bit_lt s.held n)
      have r3 := rd_pre (f := (lampN s.normal s.reverse n, 2)) (a := secsF s kinds n ++ [(bitN s.clear n, 1), (bitN s.held n, 1)]) (b := (bitN s.locked n, 1) :: t) (n := D2 + 1 + 1) rest (by rw [sumW_append, ← hp]; rfl) (lamp_lt s.normal s.reverse n)
      have r4 := rd_pre (f := (bitN s.locked n, 1)) (a := secsF s kinds n ++ [(bitN s.clear n, 1), (bitN s.held n, 1), (lampN s.normal s.reverse n, 2)]) (b := t) (n := D2 + 1 + 1 + 2) rest (by rw [sumW_append, ← hp]; rfl) (bit_lt s.locked n)
      simp only [List.append_assoc, List.cons_append, List.nil_append] at r1 r2 r3 r4 ⊢
      unfold dSec
      rw [hk]
      simp only [r1, r2, r3, r4, bit_b, lamp_1, lamp_2, if_true]
      have hpt : pt kinds n = true := hk
      exact ⟨ih.clear.next hn32 rfl, ih.held.next hn32 rfl, ih.normal.next hn32 (by rw [hpt]; rfl), ih.reverse.next hn32 (by rw [hpt]; rfl), ih.locked.next hn32 (by rw [hpt]; rfl), ih.off, ih.steady, ih.flash, ih.autos⟩
/-- what is read of the signals -/
structure SigOk (s t0 t : ShowM) (n : Nat) : Prop where
  clear : t.clear = t0.clear
  held : t.held = t0.held
  normal : t.normal = t0.normal
  reverse : t.reverse = t0.reverse
  locked : t.locked = t0.locked
  off : RowOk t.off n (fun i => s.off.getLsbD i)
  steady : RowOk t.steady n (fun i => s.steady.getLsbD i && !(flashM s).getLsbD i)
  flash : RowOk t.flash n (fun i => (flashM s).getLsbD i && !s.steady.getLsbD i)
  autos : RowOk t.autos n (fun i => s.autos.getLsbD i)
theorem sigOk (s : ShowM) (kinds : List Int) (nsig : Nat) (rest : List Bool) (p0 : TSt) (hp0 : p0.2 = sumW (secsF s kinds (min kinds.length 24))) (h1 : p0.1.off = 0#32) (h2 : p0.1.steady = 0#32) (h3 : p0.1.flash = 0#32) (h4 : p0.1.autos = 0#32) :
    ∀ n, n ≤ min nsig 12 → SigOk s p0.1 (dSigs (fbits (flds s kinds nsig) ++ rest) p0 n).1 n
  | 0, _ => ⟨rfl, rfl, rfl, rfl, rfl, h1 ▸ rowOk_zero _, h2 ▸ rowOk_zero _, h3 ▸ rowOk_zero _, h4 ▸ rowOk_zero _⟩
  | n + 1, hn => by
    have ih := sigOk s kinds nsig rest p0 hp0 h1 h2 h3 h4 n (by omega)
    obtain ⟨t, ht⟩ := flds_sig s kinds nsig n (by omega)
    have hp : (dSigs (fbits (flds s kinds nsig) ++ rest) p0 n).2 = sumW (secsF s kinds (min kinds.length 24) ++ sigsF s n) := by rw [dSigs_pos, sumW_append, hp0, sigsF_w]
    rw [dSigs]
    generalize dSigs (fbits (flds s kinds nsig) ++ rest) p0 n = D at *
    obtain ⟨D1, D2⟩ := D
    simp only at ih hp
    rw [ht]
    have hn32 : n < 32 := by omega
    generalize secsF s kinds (min kinds.length 24) ++ sigsF s n = a at *
    have e : sigF s n = [(bitN s.off n, 1), (lampN s.steady (flashM s) n, 2), (bitN s.autos n, 1)] := rfl
    rw [e]
    have r1 := rd_pre (f := (bitN s.off n, 1)) (a := a) (b := (lampN s.steady (flashM s) n, 2) :: (bitN s.autos n, 1) :: t) rest hp (bit_lt s.off n)
    have r2 := rd_pre (f := (lampN s.steady (flashM s) n, 2)) (a := a ++ [(bitN s.off n, 1)]) (b := (bitN s.autos n, 1) :: t) (n := D2 + 1) rest (by rw [sumW_append, ← hp]; rfl) (lamp_lt s.steady (flashM s) n)
    have r3 := rd_pre (f := (bitN s.autos n, 1)) (a := a ++ [(bitN s.off n, 1), (lampN s.steady (flashM s) n, 2)]) (b := t) (n := D2 + 1 + 2) rest (by rw [sumW_append, ← hp]; rfl) (bit_lt s.autos n)
    simp only [List.append_assoc, List.cons_append, List.nil_append] at r1 r2 r3 ⊢
    unfold dSig
    simp only [r1, r2, r3, bit_b, lamp_1, lamp_2]
    exact ⟨ih.clear, ih.held, ih.normal, ih.reverse, ih.locked, ih.off.next hn32 rfl, ih.steady.next hn32 rfl, ih.flash.next hn32 rfl, ih.autos.next hn32 rfl⟩
theorem flashM_bit (s : ShowM) (i : Nat) : (flashM s).getLsbD i = (s.flash.getLsbD i && !s.steady.getLsbD i) := by
  unfold flashM
  rw [BitVec.getLsbD_and, BitVec.getLsbD_not]
  by_cases h : i < 32
  · simp [h]
  · rw [BitVec.getLsbD_of_ge _ _ (by omega), BitVec.getLsbD_of_ge _ _ (by omega)]; simp
/-- what is read of a show that was put -/
structure DecOk (s d : ShowM) (kinds : List Int) (nsig : Nat) : Prop where
  clear : RowOk d.clear (min kinds.length 24) (fun i => s.clear.getLsbD i)
  held : RowOk d.held (min kinds.length 24) (fun i => s.held.getLsbD i)
  normal : RowOk d.normal (min kinds.length 24) (fun i => pt kinds i && (s.normal.getLsbD i && !s.reverse.getLsbD i))
  reverse : RowOk d.reverse (min kinds.length 24) (fun i => pt kinds i && (s.reverse.getLsbD i && !s.normal.getLsbD i))
  locked : RowOk d.locked (min kinds.length 24) (fun i => pt kinds i && s.locked.getLsbD i)
  off : RowOk d.off (min nsig 12) (fun i => s.off.getLsbD i)
  steady : RowOk d.steady (min nsig 12) (fun i => s.steady.getLsbD i && !(flashM s).getLsbD i)
  flash : RowOk d.flash (min nsig 12) (fun i => (flashM s).getLsbD i && !s.steady.getLsbD i)
  autos : RowOk d.autos (min nsig 12) (fun i => s.autos.getLsbD i)
  code : d.code = ((min s.code 7).toNat : Int)
  waiting : d.waiting = ((min (max s.waiting 0) 7).toNat : Int)
  errors : d.errors = ((max s.errors 0 % 256).toNat : Int)
theorem decOk (s : ShowM) (kinds : List Int) (nsig : Nat) (rest : List Bool) (hc : 0 ≤ s.code) : DecOk s (dec (fbits (flds s kinds nsig) ++ rest) kinds nsig) kinds nsig := by
  have h1 := secOk s kinds nsig rest (min kinds.length 24) (Nat.le_refl _)
  have h2 := sigOk s kinds nsig rest (dSecs (fbits (flds s kinds nsig) ++ rest) kinds (min kinds.length 24)) (dSecs_pos _ _ s _) h1.off h1.steady h1.flash h1.autos (min nsig 12) (Nat.le_refl _)
  have hp : (dSigs (fbits (flds s kinds nsig) ++ rest) (dSecs (fbits (flds s kinds nsig) ++ rest) kinds (min kinds.length 24)) (min nsig 12)).2 = sumW (secsF s kinds (min kinds.length 24) ++ sigsF s (min nsig 12)) := by rw [dSigs_pos, sumW_append, dSecs_pos _ _ s, sigsF_w]
  unfold dec
  generalize dSecs (fbits (flds s kinds nsig) ++ rest) kinds (min kinds.length 24) = D0 at *
  generalize dSigs (fbits (flds s kinds nsig) ++ rest) D0 (min nsig 12) = D at *
  obtain ⟨D1, D2⟩ := D
  simp only at h2 hp
  have hf : flds s kinds nsig = (secsF s kinds (min kinds.length 24) ++ sigsF s (min nsig 12)) ++ endF s := by unfold flds; simp
  rw [hf]
  generalize secsF s kinds (min kinds.length 24) ++ sigsF s (min nsig 12) = a at *
  have e : endF s = [((min s.code 7).toNat, 3), ((min (max s.waiting 0) 7).toNat, 3), ((max s.errors 0 % 256).toNat, 8)] := rfl
  rw [e]
  have r1 := rd_pre (f := ((min s.code 7).toNat, 3)) (a := a) (b := [((min (max s.waiting 0) 7).toNat, 3), ((max s.errors 0 % 256).toNat, 8)]) rest hp (by show (min s.code 7).toNat < 8; omega)
  have r2 := rd_pre (f := ((min (max s.waiting 0) 7).toNat, 3)) (a := a ++ [((min s.code 7).toNat, 3)]) (b := [((max s.errors 0 % 256).toNat, 8)]) (n := D2 + 3) rest (by rw [sumW_append, ← hp]; rfl) (by show (min (max s.waiting 0) 7).toNat < 8; omega)
  have r3 := rd_pre (f := ((max s.errors 0 % 256).toNat, 8)) (a := a ++ [((min s.code 7).toNat, 3), ((min (max s.waiting 0) 7).toNat, 3)]) (b := []) (n := D2 + 3 + 3) rest (by rw [sumW_append, ← hp]; rfl) (by show (max s.errors 0 % 256).toNat < 256; omega)
  simp only [List.append_assoc, List.cons_append, List.nil_append] at r1 r2 r3 ⊢
  unfold dEnd
  simp only [r1, r2, r3]
  exact ⟨h2.clear ▸ h1.clear, h2.held ▸ h1.held, h2.normal ▸ h1.normal, h2.reverse ▸ h1.reverse, h2.locked ▸ h1.locked, h2.off, h2.steady, h2.flash, h2.autos, rfl, rfl, rfl⟩
theorem bitN_eq {x y : BitVec 32} {i : Nat} (h : x.getLsbD i = y.getLsbD i) : bitN x i = bitN y i := by unfold bitN; rw [h]
theorem lampN_eq {a b x y : BitVec 32} {i : Nat} (h1 : a.getLsbD i = (x.getLsbD i && !y.getLsbD i)) (h2 : b.getLsbD i = (y.getLsbD i && !x.getLsbD i)) : lampN a b i = lampN x y i := by
  unfold lampN
  rw [h1, h2]
  cases x.getLsbD i <;> cases y.getLsbD i <;> rfl
theorem flatMap_range_eq {α : Type} {f g : Nat → List α} {n : Nat} (h : ∀ i, i < n → f i = g i) : (List.range n).flatMap f = (List.range n).flatMap g := by
  induction n with
  | zero => rfl
  | succ n ih => rw [List.range_succ, List.flatMap_append, List.flatMap_append, ih (fun i hi => h i (by omega))]; simp [h n (Nat.lt_succ_self n)]
/-- PUT, TAKEN, PUT AGAIN: the same numbers -/
theorem dec_flds (s : ShowM) (kinds : List Int) (nsig : Nat) (rest : List Bool) (hc : 0 ≤ s.code) : flds (dec (fbits (flds s kinds nsig) ++ rest) kinds nsig) kinds nsig = flds s kinds nsig := by
  have h := decOk s kinds nsig rest hc
  generalize dec (fbits (flds s kinds nsig) ++ rest) kinds nsig = d at *
  have e1 : secsF d kinds (min kinds.length 24) = secsF s kinds (min kinds.length 24) := by
    unfold secsF
    refine flatMap_range_eq (fun i hi => ?_)
    unfold secF
    rw [bitN_eq (h.clear.lo i hi), bitN_eq (h.held.lo i hi)]
    cases hk : (kinds.getD i 0 == 2) with
    | false => rfl
    | true =>
      have hp : pt kinds i = true := hk
      have n1 := h.normal.lo i hi
      have n2 := h.reverse.lo i hi
      have n3 := h.locked.lo i hi
      simp only [hp, Bool.true_and] at n1 n2 n3
      rw [lampN_eq n1 n2, bitN_eq n3]
  have e2 : sigsF d (min nsig 12) = sigsF s (min nsig 12) := by
    unfold sigsF
    refine flatMap_range_eq (fun i hi => ?_)
    unfold sigF
    have hs := h.steady.lo i hi
    have hf := h.flash.lo i hi
    have n2 : (flashM d).getLsbD i = ((flashM s).getLsbD i && !s.steady.getLsbD i) := by
      rw [flashM_bit, hs, hf, flashM_bit]
      cases s.steady.getLsbD i <;> cases s.flash.getLsbD i <;> rfl
    rw [bitN_eq (h.off.lo i hi), bitN_eq (h.autos.lo i hi), lampN_eq hs n2]
  have e3 : endF d = endF s := by
    unfold endF
    rw [h.code, h.waiting, h.errors]
    have a1 : (min (((min s.code 7).toNat : Nat) : Int) 7).toNat = (min s.code 7).toNat := by omega
    have a2 : (min (max (((min (max s.waiting 0) 7).toNat : Nat) : Int) 0) 7).toNat = (min (max s.waiting 0) 7).toNat := by omega
    have a3 : (max (((max s.errors 0 % 256).toNat : Nat) : Int) 0 % 256).toNat = (max s.errors 0 % 256).toNat := by omega
    rw [a1, a2, a3]
  unfold flds
  rw [e1, e2, e3]
end Go.Proofs.YtppcdmbpbbjecaaGreat
namespace Go.Proofs.YtppcdmbpbbjecaaGreat
open List renaming getElem_toArray → zA, getElem_cons_succ → zS, getElem_cons_zero → zZ, setIfInBounds_toArray → zP, set_cons_zero → zQ, set_cons_succ → zR
open Go.RowKit Rf Mem Bv AM SM Bits
def maskN (m : Nat) : BitVec 32 := BitVec.ofNat 32 (2 ^ m - 1)
theorem maskN_bit (m i : Nat) (hi : i < 32) : (maskN m).getLsbD i = decide (i < m) := by
  unfold maskN
  rw [BitVec.getLsbD_ofNat, Nat.testBit_two_pow_sub_one]
  simp [hi]
theorem row_mask {z : BitVec 32} {m : Nat} {p : Nat → Bool} (h : RowOk z m p) : z &&& ~~~ maskN m = 0#32 := by
  apply BitVec.eq_of_getLsbD_eq
  intro i hi
  rw [BitVec.getLsbD_and, BitVec.getLsbD_not, maskN_bit m i hi]
  by_cases e : i < m
  · simp [e]
  · rw [h.hi i (by omega)]; simp
theorem or_mask {a b c : BitVec 32} (h1 : a &&& c = 0#32) (h2 : b &&& c = 0#32) : (a ||| b) &&& c = 0#32 := by
  apply BitVec.eq_of_getLsbD_eq
  intro i hi
  have e1 := congrArg (fun x => x.getLsbD i) h1
  have e2 := congrArg (fun x => x.getLsbD i) h2
  simp only [BitVec.getLsbD_and, BitVec.getLsbD_zero] at e1 e2 ⊢
  rw [BitVec.getLsbD_or]
  cases ha : a.getLsbD i <;> cases hb : b.getLsbD i <;> simp_all
theorem row_apart {a b : BitVec 32} {m : Nat} {p q : Nat → Bool} (h1 : RowOk a m p) (h2 : RowOk b m q) (h : ∀ i, i < m → (p i && q i) = false) : a &&& b = 0#32 := by
  apply BitVec.eq_of_getLsbD_eq
  intro i hi
  rw [BitVec.getLsbD_and, BitVec.getLsbD_zero]
  by_cases e : i < m
  · rw [h1.lo i e, h2.lo i e]; exact h i e
  · rw [h1.hi i (by omega)]; rfl
theorem holds_split {p : List (BitVec 8)} {l : List Bool} (h : Bits.Holds p l) : ∃ rest, bitsOf p = l ++ rest := by
  obtain ⟨_, m, hm⟩ := h
  exact ⟨_, hm⟩
theorem sumW_flds (s t : ShowM) (kinds : List Int) (nsig : Nat) : sumW (flds s kinds nsig) = sumW (flds t kinds nsig) := by unfold sumW; rw [widths s t]
theorem put_len {p : List (BitVec 8)} {s : ShowM} {kinds : List Int} {nsig : Nat} (h : Bits.Holds p (fbits (flds s kinds nsig))) : p.length = (sumW (flds s0 kinds nsig) + 7) / 8 := by
  rw [h.1, fbits_len, sumW_flds s s0]
theorem sumW_14 (s : ShowM) (kinds : List Int) (nsig : Nat) : 14 ≤ sumW (flds s kinds nsig) := by rw [flds_w s [] kinds nsig]; omega
/-- what was put is taken: it is put alike -/
theorem take_put {p : List (BitVec 8)} {s x : ShowM} {e : Int} {kinds : List Int} {nsig : Nat} (hc : 0 ≤ s.code) (h : Bits.Holds p (fbits (flds s kinds nsig))) (ht : TakeR p kinds nsig x e) :
    e = 0 ∧ x = dec (bitsOf p) kinds nsig ∧ Bits.Holds p (fbits (flds x kinds nsig)) := by
  obtain ⟨rest, hr⟩ := holds_split h
  have hf := dec_flds s kinds nsig rest hc
  rw [← hr] at hf
  rcases ht with ⟨_, h1, rfl, h2⟩ | ⟨h1, _⟩
  · exact ⟨h2, rfl, h1⟩
  · exact absurd ⟨put_len h, by rw [hf]; exact h⟩ h1
theorem take_len {p : List (BitVec 8)} {x : ShowM} {e : Int} {kinds : List Int} {nsig : Nat} (h : p.length ≠ (sumW (flds s0 kinds nsig) + 7) / 8) (ht : TakeR p kinds nsig x e) : e = 41 := by
  rcases ht with ⟨h1, _⟩ | ⟨_, _, h2⟩
  · exact absurd h1 h
  · exact h2
theorem dec_code (l : List Bool) (kinds : List Int) (nsig : Nat) : 0 ≤ (dec l kinds nsig).code := by unfold dec dEnd; simp
/-- what was taken: its rows -/
theorem taken {p : List (BitVec 8)} {y : ShowM} {kinds : List Int} {nsig : Nat} (ht : TakeR p kinds nsig y 0) :
    Bits.Holds p (fbits (flds y kinds nsig)) ∧ DecOk y y kinds nsig := by
  rcases ht with ⟨_, h1, rfl, _⟩ | ⟨_, _, h2⟩
  · refine ⟨h1, ?_⟩
    obtain ⟨rest, hr⟩ := holds_split h1
    have := decOk (dec (bitsOf p) kinds nsig) kinds nsig rest (dec_code _ _ _)
    rw [← hr] at this
    exact this
  · cases h2
theorem taken_masks {y : ShowM} {kinds : List Int} {nsig : Nat} (h : DecOk y y kinds nsig) :
    (y.clear ||| y.held ||| y.normal ||| y.reverse ||| y.locked) &&& ~~~ maskN (min kinds.length 24) = 0#32 ∧ (y.off ||| y.steady ||| y.flash ||| y.autos) &&& ~~~ maskN (min nsig 12) = 0#32 ∧ y.normal &&& y.reverse = 0#32 ∧ y.steady &&& y.flash = 0#32 := by
  refine ⟨or_mask (or_mask (or_mask (or_mask (row_mask h.clear) (row_mask h.held)) (row_mask h.normal)) (row_mask h.reverse)) (row_mask h.locked), or_mask (or_mask (or_mask (row_mask h.off) (row_mask h.steady)) (row_mask h.flash)) (row_mask h.autos), row_apart h.normal h.reverse (fun i _ => ?_), row_apart h.steady h.flash (fun i _ => ?_)⟩
  · show ((pt kinds i && (y.normal.getLsbD i && !y.reverse.getLsbD i)) && (pt kinds i && (y.reverse.getLsbD i && !y.normal.getLsbD i))) = false
    cases pt kinds i <;> cases y.normal.getLsbD i <;> cases y.reverse.getLsbD i <;> rfl
  · show ((y.steady.getLsbD i && !(flashM y).getLsbD i) && ((flashM y).getLsbD i && !y.steady.getLsbD i)) = false
    cases y.steady.getLsbD i <;> cases (flashM y).getLsbD i <;> rfl
theorem taken_nums {y : ShowM} {kinds : List Int} {nsig : Nat} (h : DecOk y y kinds nsig) : 0 ≤ y.code ∧ y.code ≤ 7 ∧ 0 ≤ y.waiting ∧ y.waiting ≤ 7 ∧ 0 ≤ y.errors ∧ y.errors ≤ 255 := by
  have h1 := h.code
  have h2 := h.waiting
  have h3 := h.errors
  omega
end Go.Proofs.YtppcdmbpbbjecaaGreat
