/- Keys: contracts of of, flags. Nothing that was there is turned. -/
import Derived.Test.YtioggdiicgfoaaaKLay
import Derived.Test.YtioggdiicgfoaaaKeyBits
namespace Go.Proofs.Ytioggdiicgfoaaa
open Go.RowKit Rf Mem KM
attribute [local go_sem ↓] run_max2 run_min2
theorem res_mid {T : TypeId} {d : TypeDesc} (hu : Try.prog.underlying T = some d) (hd : d.isRow = true) {fn : Func} {t : Tmp} (hf : fn.results = #[.cell t T]) {tmps : Array Value} {W : World} {g : Nat} {M : List Value} {u : TypeId} {f : Nat × Nat} (hi : (Try.prog.info? T).map (·.size) = some M.length)
    (hs : tmps.getD t undef = .pointer (some ⟨g, 0, none⟩)) (hg : W.heap[g]? = some (.cells M.toArray u f)) : (results fn tmps).run Try.prog W = .ok (.agg M.toArray) W := by
  have hs' : tmps[t]?.getD undef = .pointer (some ⟨g, 0, none⟩) := by simpa using hs
  have h := run_loadVar_mid (P := Try.prog) W g 0 T M _ (range_of hg) hu hd hi
  simp [results, hf, hs', asAddr, h]
theorem m12 {a c : Nat} (h : min a 12 = c) : min (a : Int) 12 = (c : Int) := by omega
theorem m24 {a c : Nat} (h : min a 24 = c) : min (a : Int) 24 = (c : Int) := by omega
set_option maxRecDepth 100000 in
theorem of_c (L : List Value) (nsec : Nat) (lens : List Nat) (nsig nfl : Nat) (A : Option Addr) (c : Nat) (A1 : Option Addr) (c1 : Nat) (A3 : Option Addr) (c3 : Nat) (ve : Value) (ns ne nc : Nat) (w : World) (hns : min nsig 12 = ns) (hne : min lens.length 12 = ne) (hnc : min nsec 24 = nc)
    (hL : LayN w L nsec lens nsig nfl A c A1 c1 A3 c3 ve) : Calls Try.prog 18 #[.agg L.toArray] w fun e w' => e = .returned (.agg #[.int .i64 ns, .int .i64 ne, .int .i64 nc]) ∧ Below w.heap.size w w' := by
  have b0 := kbelow_new w (.cells L.toArray 29)
  have G0 : (w.alloc (.cells L.toArray 29)).heap[w.heap.size]? = some (.cells L.toArray 29 (0, 0)) := new_at rfl _
  have bz := kbelow_new (w.alloc (.cells L.toArray 29)) (.cells #[.int .i64 ns, .int .i64 ne, .int .i64 nc] 59)
  obtain ⟨Ae, ce, rfl, _⟩ := hL.ea
  have G1 := old_at G0 (.cells #[.int .i64 0, .int .i64 0, .int .i64 0] 59)
  have x0 := cell_list G1 hL.sec
  have x1 := cell_list G1 hL.sig
  have x2 := cell_list G1 hL.ex
  have q1 : min (nsig : Int) 12 = (ns : Int) := m12 hns
  have q2 : min (lens.length : Int) 12 = (ne : Int) := m12 hne
  have q3 : min (nsec : Int) 24 = (nc : Int) := m24 hnc
  clear hns hne hnc
  go_enter Try.func18, Try.ntmps18
  go_wp2
  refine bodyPost_ret (res_mid (t := 2) (M := [.int .i64 ns, .int .i64 ne, .int .i64 nc]) Try.underlying59 rfl rfl (by kernel_rfl) rfl (new_at (by simp) _)) rfl ⟨rfl, below_step b0 bz⟩
end Go.Proofs.Ytioggdiicgfoaaa
