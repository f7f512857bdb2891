/- Routes: the iterator over those that are clear. Nothing that was there is turned but by yield. -/
import Derived.Test.YtppcdmbpbbjecaaGreatAspG
import Derived.Test.YtppcdmbpbbjecaaGreatRnd
import Derived.Test.YtppcdmbpbbjecaaGreatRfA
namespace Go.Proofs.YtppcdmbpbbjecaaGreat
open Go.RowKit Rf Mem Bv AM
attribute [local go_sem ↓] run_max2 run_min2
attribute [local go_sem] Oper.semAt_some
theorem not_later {O O' : Nat → Prop} {W : World} {q : Nat} (h : ¬ O q) (hq : q < W.heap.size) (ho : ∀ k, O' k → O k ∨ W.heap.size ≤ k) : ¬ O' q := fun hO => by
  rcases ho q hO with h1 | h1
  · exact h h1
  · omega
section
variable {P : Program}
theorem wpListIn_load_g {F : Fence} {nn : Nat} {w : World} {a : Act} {Q : Exit → Act → World → Prop} {ops : Array Oper} {rest : List Oper} {op : Oper} (hgd : op.guard = none) (ty : TypeId) (x : Operand) (ho : op.op = .load ty x)
    (b o : Nat) (hx : a.eval x = .pointer (some ⟨b, o, none⟩)) (cs : List Value) (d : TypeDesc) (hc : w.rangeAt b o cs)
    (hu : P.underlying ty = some d) (hd : d.isRow = true) (hi : (P.info? ty).map (·.size) = some cs.length)
    (h : wpListIn F nn P ops Q rest (a.put op.dst (.agg cs.toArray)) w) : wpListIn F nn P ops Q (op :: rest) a w := by
  refine wpListIn_plain hgd fun K hK => ?_
  unfold Oper.wpIn
  refine ⟨?_, ?_⟩
  · simp [Oper.about, ho]
  · rw [Oper.semAt_plain F _ _ (by rw [ho]; intro c hc'; cases hc')]
    simp only [execOp, ho, hx, Instr.loadAt, Instr.sureAddr, Sem.run_bind, Sem.run_pure, Result.andThen_ok, run_loadVar_mid w b o ty cs d hc hu hd hi]
    exact hK _ _ h
theorem wpListIn_load_w {F : Fence} {nn : Nat} {w : World} {a : Act} {Q : Exit → Act → World → Prop} {ops : Array Oper} {rest : List Oper} {op : Oper} (hw : Region.wanted op (yielded ops a.tmps) = true) (ty : TypeId) (x : Operand) (ho : op.op = .load ty x)
    (b o : Nat) (hx : a.eval x = .pointer (some ⟨b, o, none⟩)) (cs : List Value) (d : TypeDesc) (hc : w.rangeAt b o cs)
    (hu : P.underlying ty = some d) (hd : d.isRow = true) (hi : (P.info? ty).map (·.size) = some cs.length)
    (h : wpListIn F nn P ops Q rest (a.put op.dst (.agg cs.toArray)) w) : wpListIn F nn P ops Q (op :: rest) a w := by
  unfold wpListIn
  rw [if_pos hw]
  unfold Oper.wpIn
  refine ⟨?_, ?_⟩
  · simp [Oper.about, ho]
  · rw [Oper.semAt_plain F _ _ (by rw [ho]; intro c hc'; cases hc')]
    simp only [execOp, ho, hx, Instr.loadAt, Instr.sureAddr, Sem.run_bind, Sem.run_pure, Result.andThen_ok, run_loadVar_mid w b o ty cs d hc hu hd hi]
    exact h
theorem wpListIn_store_g {F : Fence} {nn : Nat} {w : World} {a : Act} {Q : Exit → Act → World → Prop} {ops : Array Oper} {rest : List Oper} {op : Oper} (hgd : op.guard = none) (ty : TypeId) (x y : Operand) (ho : op.op = .store ty x y)
    (b o : Nat) (cells : Array Value) (hx : a.eval x = .pointer (some ⟨b, o, none⟩)) (hy : a.eval y = .agg cells)
    (ht : w.there b o cells.size) (hi : (P.info? ty).map (·.size) = some cells.size) (h1 : cells.all (·.oneCell') = true)
    (h : wpListIn F nn P ops Q rest (a.put op.dst undef) (w.setCells b o cells.toList)) : wpListIn F nn P ops Q (op :: rest) a w := by
  refine wpListIn_plain hgd fun K hK => ?_
  unfold Oper.wpIn
  refine ⟨?_, ?_⟩
  · simp [Oper.about, ho]
  · rw [Oper.semAt_plain F _ _ (by rw [ho]; intro c hc'; cases hc')]
    simp only [execOp, ho, hx, hy, Instr.storeAt, Instr.sureAddr, Sem.run_bind, Sem.run_pure, Result.andThen_ok, run_storeVar_mid w b o ty cells ht hi h1]
    exact hK _ _ h
end
/-- the places below k that are so -/
def keptN (P : Nat → Bool) (k : Nat) : List Nat := (List.range k).filter P
theorem keptN_succ (P : Nat → Bool) (k : Nat) : keptN P (k + 1) = keptN P k ++ (if P k then [k] else []) := by
  unfold keptN; rw [List.range_succ, List.filter_append]
  cases h : P k <;> simp [h]
theorem keptN_at (P : Nat → Bool) (k : Nat) (hp : P k = true) : ∀ n, k < n → (keptN P n)[(keptN P k).length]? = some k
  | 0, h => by omega
  | n + 1, h => by
    rw [keptN_succ]
    by_cases e : k = n
    · subst e; rw [if_pos hp, List.getElem?_append_right (Nat.le_refl _)]; simp
    · have ih := keptN_at P k hp n (by omega)
      rw [List.getElem?_append_left (List.getElem?_eq_some_iff.1 ih).1]; exact ih
/-- a route and its place, as the iterator hands them over -/
def clV (css : List (List Value)) (k : Nat) : Array Value := #[.int .i64 k, .agg (css.getD k []).toArray]
def clL (css : List (List Value)) (P : Nat → Bool) : List (Array Value) := (keptN P css.length).map (clV css)
abbrev zHeld : Array Value := #[.int .i64 0, .int .i64 0, .int .i64 0, .slice none 0 0, .slice none 0 0, .slice none 0 0, .int .u8 0, .int .i64 0, .bool false, .bool false, .bool false, .bool false, .bool false, .bool false, .bool false, .bool false, .bool false, .bool false, .bool false, .bool false, .bool false, .int .i64 0, .bool false]
theorem HsAt.row {W : World} {v : Value} {css : List (List Value)} {hs : List HeldM} (h : HsAt W v css hs) {k : Nat} {cs : List Value} (hk : css[k]? = some cs) :
    ∃ b off c, v = .slice (some ⟨b, off, none⟩) css.length c ∧ W.rangeAt b (off + k * 23) cs := by
  have hlt := (List.getElem?_eq_some_iff.1 hk).1
  obtain ⟨b, off, c, rfl, _, _, _, hc⟩ := h.sl.pos (by omega)
  refine ⟨b, off, c, rfl, fun j u hj => ?_⟩
  have hj23 : j < 23 := by have := (List.getElem?_eq_some_iff.1 hj).1; rwa [h.all _ (List.mem_of_getElem? hk)] at this
  rw [Nat.add_assoc]
  refine hc _ _ ?_
  rw [show css.flatMap id = css.flatMap (fun a => a) from rfl, flatMap_get (sz := 23) (fun a ha => h.all a ha) k j hj23, hk]; exact hj
structure KPre (w W : World) (gk gl gm : Nat) (K L M : List Value) : Prop where
  bel : Below w.heap.size w W
  k : W.heap[gk]? = some (.cells K.toArray 41 (0, 0))
  v : V2 W gl gm L M
def KRd (n gk gl gm q : Nat) : Prop := q < n ∨ q = gk ∨ q = gl ∨ q = gm
theorem KPre.keep {S : Nat → Prop} {w W W' : World} {gk gl gm : Nat} {K L M : List Value} (h : KPre w W gk gl gm K L M) (hk : Keep S W W') (hS : ∀ q, KRd w.heap.size gk gl gm q → S q) : KPre w W' gk gl gm K L M :=
  ⟨below_keep h.bel hk (Nat.le_refl _) (fun q hq => hS q (.inl hq)), hk.at_ h.k (hS _ (.inr (.inl rfl))), hk.at_ h.v.l (hS _ (.inr (.inr (.inl rfl)))), hk.at_ h.v.m (hS _ (.inr (.inr (.inr rfl))))⟩
theorem KPre.lt {w W : World} {gk gl gm : Nat} {K L M : List Value} (h : KPre w W gk gl gm K L M) {q : Nat} (hq : KRd w.heap.size gk gl gm q) : q < W.heap.size := by
  rcases hq with h1 | rfl | rfl | rfl
  · exact Nat.lt_of_lt_of_le h1 h.bel.size
  · exact lt_at h.k
  · exact lt_at h.v.l
  · exact lt_at h.v.m
theorem aclear_c (L M K : List Value) (w : World) : Calls Tryz.prog 82 #[.agg L.toArray, .agg M.toArray, .agg K.toArray] w fun e W' => e = .returned (.func (.func 107) #[] #[.pointer (some ⟨w.heap.size + 2, 0, none⟩), .pointer (some ⟨w.heap.size, 0, none⟩), .pointer (some ⟨w.heap.size + 1, 0, none⟩)]) ∧ ((w.alloc (.cells L.toArray 29)).alloc (.cells M.toArray 35)).alloc (.cells K.toArray 41) = W' := by
  obtain h | h : True ∨ True := .inl trivial
  all_goals
    go_enter Tryz.func82, Tryz.ntmps82
    go_wp2
    go_ret
    exact ⟨rfl, rfl⟩
set_option maxHeartbeats 2000000 in
set_option maxRecDepth 100000 in
theorem clear1 (w : World) (I : IM) (K L M : List Value) (vh : Value) (css : List (List Value)) (hs : List HeldM) (nx : Int) (ms : List (Int × Int × Bool)) (gk gl gm : Nat) (P : Nat → Bool) (hA : IMA I L M w) (hK : KerAt w K vh css hs nx ms) (hlen : hs.length ≤ 5864062014700)
    (hP : ∀ (k : Nat) (h : HeldM), hs[k]? = some h → P k = clearB I.stand I.occB I.litB h) (hsm : ∀ h ∈ hs, h.needs.length ≤ 5864062014700 ∧ h.steps.length ≤ 5864062014700 ∧ h.over.length ≤ 5864062014700) :
    Iter Tryz.prog 107 #[.pointer (some ⟨gk, 0, none⟩), .pointer (some ⟨gl, 0, none⟩), .pointer (some ⟨gm, 0, none⟩)] (fun _ => False) (KRd w.heap.size gk gl gm) (clL css P) (fun W => KPre w W gk gl gm K L M) := by
  intro lp J O0 W0 hPre hO hJ hY hj0
  have hOg : ∀ q, KRd w.heap.size gk gl gm q → ¬ O0 q := fun q hq h => (hO q h).2.2 hq
  have szL := lay_size hA.f.l.len
  have szM := img_size hA.f.m.len
  have hll := hK.hs.len
  have HY := Lib.hid hY
  have HJK := Lib.hid hJ
  have HO0 := Lib.hid hOg
  have HKA := Lib.hid hK
  have HPP := Lib.hid hP
  have x0 := cell_list hPre.k hK.held
  obtain ⟨Ah, ch, rfl, _⟩ := hK.hs.sl.form
  obtain ⟨n, hn⟩ : ∃ n, css.length = n := ⟨_, rfl⟩
  have HN := Lib.hid hn
  have hn1 : n ≤ 5864062014700 := by omega
  rw [hn] at x0
  clear hY hO hJ hOg hK hP
  refine callsIn_of_wp Tryz.func107 rfl trivial ?_ rfl
  simp only [Tryz.ntmps107, List.size_toArray, List.length_cons, List.length_nil, Nat.reduceAdd, Nat.reduceSub, Array.replicate_succ, Array.replicate_zero, List.push_toArray, List.append_toArray, List.nil_append, List.cons_append]
  gi_wp2
  gi_loopw [10] (fun i wr => ∃ (k : Nat) (O : Nat → Prop), k ≤ n ∧ i = .int .i64 k ∧ Hid (J (keptN P k).length O wr) ∧ KPre w wr gk gl gm K L M ∧ Hid (∀ q, KRd w.heap.size gk gl gm q → ¬ O q) ∧ W0.heap.size ≤ wr.heap.size) (fun i _ => n - (intOf i).toNat)
  case atStart => exact ⟨0, O0, Nat.zero_le _, rfl, Lib.hid hj0, hPre, HO0, Nat.le_refl _⟩
  case round =>
    obtain ⟨k, O, hk, rfl, HJ, Mp, HO, hsz⟩ := hrel
    clear x0 hPre
    by_cases hlt : k < n
    · obtain ⟨cs, hcs⟩ : ∃ s, css[k]? = some s := ⟨_, List.getElem?_eq_getElem (by omega)⟩
      obtain ⟨q, hq⟩ : ∃ s, hs[k]? = some s := ⟨_, List.getElem?_eq_getElem (by omega)⟩
      have hKr := HKA.out.later Mp.bel
      obtain ⟨b, off, c', hv, hr⟩ := hKr.hs.row hcs
      have hHq := hKr.hs.at_ k cs q hcs hq
      obtain ⟨rfl, _, rfl⟩ := Value.slice.inj hv
      have szS := held_size hHq.len
      obtain ⟨Ws, hWs, k3, k4, k2⟩ := newv (V := wr) cs zHeld 75 (by rw [hHq.len]; rfl)
      have szm : (Tryz.prog.info? 75).map (·.size) = some cs.toArray.size := by simpa using szS
      have oneS : cs.toArray.all (·.oneCell') = true := all_one hHq.one
      have hgd : css.getD k [] = cs := by simp [List.getD, hcs]
      have hHq2 := hHq.later k4
      have hA2 := (hA.later Mp.bel).later k4
      have hk0 : Keep (fun q => q < wr.heap.size) wr Ws := Keep.of_below k4 (fun _ h _ => h)
      have M2 := Mp.keep hk0 (fun q hq => Mp.lt hq)
      have hsz2 : W0.heap.size ≤ Ws.heap.size := Nat.le_trans hsz k4.size
      have hJ2 := HJK.out _ _ _ _ HJ.out (hk0.mono (fun q hq _ => hq))
      have i1 : (k : Int) < (n : Int) := by omega
      obtain ⟨r, hr0⟩ : ∃ r, P k = r := ⟨_, rfl⟩
      have HR := Lib.hid hr0
      have HCL := Lib.hid (hr0.symm.trans (HPP.out k q hq))
      obtain ⟨s1, s2, s3⟩ := hsm q (List.mem_of_getElem? hq)
      have RS := range_of k3
      have RL := range_of M2.v.l
      have RM := range_of M2.v.m
      have HWS := Lib.hid hWs
      have HSZ := Lib.hid k4.size
      have HGD := Lib.hid hgd
      have H2 := Lib.hid hJ2
      have HCS := Lib.hid hcs
      clear hWs k4 hgd hJ2 hcs hq hv hr0 hHq hKr hn
      gi_wp2_with (first
        | refine wpListIn_load_g rfl 75 (.tmp 13) (by rfl) b (off + k * 23) (by rfl) cs _ hr Tryz.underlying75 rfl szS ?_
        | (refine wpListIn_store_g rfl 75 (.tmp 6) (.tmp 14) (by rfl) wr.heap.size 0 cs.toArray (by rfl) (by rfl) k2 szm oneS ?_; rw [HWS.out])
        | refine wpListIn_load_g rfl 29 (.tmp 2) (by rfl) gl 0 (by rfl) L _ RL Tryz.underlying29 rfl szL ?_
        | refine wpListIn_load_g rfl 35 (.tmp 3) (by rfl) gm 0 (by rfl) M _ RM Tryz.underlying35 rfl szM ?_
        | refine wpListIn_load_g rfl 75 (.tmp 6) (by rfl) wr.heap.size 0 (by rfl) cs _ RS Tryz.underlying75 rfl szS ?_)
      refine ⟨trivial, rfl, (callsIn_wide.2 (Clear_c I L M cs q r _ HCL.out hA2 hHq2 s1 s2 s3)).mono ?_⟩
      rintro e W3 ⟨rfl, b3⟩
      have hk3 : Keep (fun q => q < Ws.heap.size) Ws W3 := Keep.of_below b3 (fun _ h _ => h)
      have M3 := M2.keep hk3 (fun q hq => M2.lt hq)
      have hsz3 : W0.heap.size ≤ W3.heap.size := Nat.le_trans hsz2 b3.size
      have H3 := Lib.hid (HJK.out _ _ _ _ H2.out (hk3.mono (fun q hq _ => hq)))
      have RS3 := range_of (var_later k3 b3)
      clear RS RL RM hr k2 szm oneS hHq2 hA2 k3 b3
      cases r
      · have HC : Hid (keptN P (k + 1) = keptN P k) := Lib.hid (by rw [keptN_succ, if_neg (by rw [HR.out]; simp), List.append_nil])
        clear RS3
        gi_wp2
        refine ⟨fun f h => (by cases h), ?_⟩
        gi_wp2
        go_roundw
        case rel => exact ⟨k + 1, O, by omega, by go_num, by rw [HC.out]; exact H3, M3, HO, hsz3⟩
        case measure => simp [intOf]; omega
      · have HC : Hid (keptN P (k + 1) = keptN P k ++ [k]) := Lib.hid (by rw [keptN_succ, if_pos HR.out])
        have hyl := HY.out (keptN P k).length (clV css k) O W3 (by rw [clL, List.getElem?_map, keptN_at P k HR.out _ (by have := HN.out; omega)]; rfl) H3.out hsz3
        unfold clV at hyl
        rw [HGD.out] at hyl
        obtain ⟨fn, tmps, assign, body, hy, hR⟩ := hyl
        gi_wp2_with (first
          | refine wpListIn_load_w (by rfl) 75 (.tmp 6) (by rfl) wr.heap.size 0 (by rfl) cs _ RS3 Tryz.underlying75 rfl szS ?_)
        refine ⟨rfl, hR.mono ?_⟩
        rintro e W' ⟨rfl, O', hJ', ho', hk'⟩
        have M' := M3.keep hk' HO.out
        have hs' := hk'.size
        have HO' := Lib.hid (fun q hq => not_later (HO.out q hq) (M3.lt hq) ho')
        clear hy hR RS3
        gi_wp2
        go_roundw
        case rel => exact ⟨k + 1, O', by omega, by go_num, by rw [HC.out, List.length_append]; exact Lib.hid hJ', M', HO', by omega⟩
        case measure => simp [intOf]; omega
    · obtain rfl : k = n := by omega
      gi_wp2
      go_end0
      exact ⟨⟨_, rfl⟩, O, by rw [clL, List.length_map, HN.out]; exact HJ.out⟩
end Go.Proofs.YtppcdmbpbbjecaaGreat
