/- Bit arithmetic of the model at bit vectors: and, or, xor, and not, of unsigned kinds. No condition. -/
import Derived.Test.YtppcdmbpbbjecaaGreatMem
import Derived.Laws.BitsAllLaws
namespace Go.Proofs.YtppcdmbpbbjecaaGreat.Bv
open Go.RowKit Mem

theorem wrap_small (k : IntKind) (hk : k.signed = false) {n : Int} (h0 : 0 ≤ n) (h1 : n < 2 ^ k.bits) : k.wrap n = n := by
  cases k <;> simp_all [IntKind.wrap, IntKind.signed, IntKind.bits] <;> omega
theorem ofInt_toNat {n : Nat} (x : BitVec n) : BitVec.ofInt n (x.toNat : Int) = x := by
  rw [BitVec.ofInt_natCast, BitVec.ofNat_toNat, BitVec.setWidth_eq]
theorem wrap_bv (k : IntKind) (hk : k.signed = false) (x : BitVec k.bits) : k.wrap (x.toNat : Int) = (x.toNat : Int) :=
  wrap_small k hk (by omega) (by have := x.isLt; exact_mod_cast this)
theorem bits_and (k : IntKind) (hk : k.signed = false) (x y : BitVec k.bits) : bits .and k (x.toNat : Int) (y.toNat : Int) = ((x &&& y).toNat : Int) := by
  unfold bits; simp only [ofInt_toNat]; exact wrap_bv k hk _
theorem bits_or (k : IntKind) (hk : k.signed = false) (x y : BitVec k.bits) : bits .or k (x.toNat : Int) (y.toNat : Int) = ((x ||| y).toNat : Int) := by
  unfold bits; simp only [ofInt_toNat]; exact wrap_bv k hk _
theorem bits_xor (k : IntKind) (hk : k.signed = false) (x y : BitVec k.bits) : bits .xor k (x.toNat : Int) (y.toNat : Int) = ((x ^^^ y).toNat : Int) := by
  unfold bits; simp only [ofInt_toNat]; exact wrap_bv k hk _
theorem bits_andNot (k : IntKind) (hk : k.signed = false) (x y : BitVec k.bits) : bits .andNot k (x.toNat : Int) (y.toNat : Int) = ((x &&& ~~~ y).toNat : Int) := by
  unfold bits; simp only [ofInt_toNat]; exact wrap_bv k hk _
theorem and1_16 (x : BitVec 16) : bits .and .u16 (x.toNat : Int) 1 = ((x.toNat % 2 : Nat) : Int) := by
  have h : bits .and .u16 (x.toNat : Int) 1 = (((x &&& 1#16 : BitVec 16)).toNat : Int) := bits_and .u16 rfl x 1#16
  rw [h, BitVec.toNat_and]; simp [Nat.and_one_is_mod]
theorem and1_8 (x : BitVec 8) : bits .and .u8 (x.toNat : Int) 1 = ((x.toNat % 2 : Nat) : Int) := by
  have h : bits .and .u8 (x.toNat : Int) 1 = (((x &&& 1#8 : BitVec 8)).toNat : Int) := bits_and .u8 rfl x 1#8
  rw [h, BitVec.toNat_and]; simp [Nat.and_one_is_mod]
theorem shr1 {n : Nat} (x : BitVec n) : (x.toNat : Int) / (2 : Int) = ((x >>> 1).toNat : Int) := by
  rw [BitVec.toNat_ushiftRight, Nat.shiftRight_eq_div_pow]; omega
theorem shr_bv {n : Nat} (x : BitVec n) (i : Nat) : (x.toNat : Int) / (2 : Int) ^ i = ((x >>> i).toNat : Int) := by
  rw [BitVec.toNat_ushiftRight, Nat.shiftRight_eq_div_pow]; norm_cast

/-- Bytes, as cells. -/
abbrev u8s (bs : List (BitVec 8)) : List Value := bs.map fun b => Value.int .u8 (b.toNat : Int)
theorem open_bytes_arg {H : Type} {enc : TypeId × Value → H} {P : Program} {w : World} {base t e : Nat} {v : Value} {d : DataW H} {p : List MemPlace}
    (ht : P.underlying t = some (.slice e)) (he : P.underlying e = some (.int .u8)) (hce : P.cellsOf e = 1) (hv : Value.okWide P w .any base t v) (h : DataW.Trod enc P w 0 (fun _ => true) true t v d p) :
    ∃ bs : List (BitVec 8), SliceAt w 1 v bs.length (u8s bs) := by
  obtain ⟨as, h1, _⟩ := open_arg (sz := 1) (fun b : BitVec 8 => [Value.int .u8 (b.toNat : Int)]) (fun _ => True) (fun _ => rfl) (by omega) ht hce
    (fun m cs x hl ht' => by
      obtain ⟨n, rfl, _, hw⟩ := DataW.trod_int he ht'
      have hb : 0 ≤ n ∧ n ≤ 255 := by simpa [Lit.wf, IntKind.min, IntKind.max, IntKind.signed, IntKind.bits] using hw
      exact ⟨BitVec.ofNat 8 n.toNat, trivial, by simp; omega⟩) hv h
  exact ⟨as, by rw [flatMap_one] at h1; exact h1⟩
theorem of_u16 {n : Int} (h : (Lit.int .u16 n).wf = true) : ∃ s : BitVec 16, n = (s.toNat : Int) := by
  have hb : 0 ≤ n ∧ n ≤ 65535 := by simpa [Lit.wf, IntKind.min, IntKind.max, IntKind.signed, IntKind.bits] using h
  exact ⟨BitVec.ofNat 16 n.toNat, by simp; omega⟩
theorem of_u8 {n : Int} (h : (Lit.int .u8 n).wf = true) : ∃ s : BitVec 8, n = (s.toNat : Int) := by
  have hb : 0 ≤ n ∧ n ≤ 255 := by simpa [Lit.wf, IntKind.min, IntKind.max, IntKind.signed, IntKind.bits] using h
  exact ⟨BitVec.ofNat 8 n.toNat, by simp; omega⟩
theorem of_u32 {n : Int} (h : (Lit.int .u32 n).wf = true) : ∃ s : BitVec 32, n = (s.toNat : Int) := by
  have hb : 0 ≤ n ∧ n ≤ 4294967295 := by simpa [Lit.wf, IntKind.min, IntKind.max, IntKind.signed, IntKind.bits] using h
  exact ⟨BitVec.ofNat 32 n.toNat, by simp; omega⟩
end Go.Proofs.YtppcdmbpbbjecaaGreat.Bv
