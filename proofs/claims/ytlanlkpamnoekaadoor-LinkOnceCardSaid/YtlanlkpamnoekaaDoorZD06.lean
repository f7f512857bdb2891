/- Lone runs in company: a metatheorem on the model, and the sender beside link.All. Nothing that was there is turned. -/
import Derived.Test.YtlanlkpamnoekaaDoorZD05
set_option linter.unusedSimpArgs false
set_option linter.unusedVariables false
namespace Go.Proofs.YtlanlkpamnoekaaDoor.Lk
open Go
section
variable {P : Program} {q : Prop} {Z : Nat → Prop} {C : Code → Prop} {α β : Type}

/-! ### numbers -/
theorem meek_intArith (op k x y) : Meek P q Z C (fun _ => True) (Op.intArith op k x y) := by
  unfold Op.intArith
  repeat' first
    | with_reducible exact Meek.pure trivial
    | with_reducible exact Meek.stuck
    | with_reducible exact Meek.goPanic
    | with_reducible exact Meek.unsup (fun g h => by cases h)
    | with_reducible exact Meek.runtimePanic _
    | with_reducible exact Meek.boundsPanic _ _ _ _
    | with_reducible exact Meek.noRoom
    | with_reducible exact (Meek.choose _).any
    | with_reducible exact (Meek.load _ _).any
    | with_reducible exact (Meek.store _ _ _).any
    | with_reducible exact (meek_typeInfo _).any
    | with_reducible exact (meek_underlying _).any
    | with_reducible exact (meek_typeStr _).any
    | with_reducible exact (meek_zeroValue _).any
    | with_reducible exact (meek_sizeOf _).any
    | with_reducible exact (meek_isAgg _).any
    | with_reducible exact (meek_loadCells _ _).any
    | with_reducible exact (meek_storeCells _ _ _).any
    | with_reducible exact (meek_loadVar _ _).any
    | with_reducible exact (meek_storeVar _ _ _).any
    | with_reducible exact (meek_newRow _ _).any
    | with_reducible exact (meek_newVar _ _).any
    | with_reducible exact (meek_elemOf _).any
    | with_reducible exact (meek_part _ _ _).any
    | with_reducible exact (meek_asIntOf _).any
    | with_reducible exact (meek_asInt _).any
    | with_reducible exact (meek_asBool _).any
    | with_reducible exact (meek_asString _).any
    | with_reducible exact (meek_asAgg _).any
    | with_reducible exact (meek_asAddr _).any
    | with_reducible exact (meek_askRoom _).any
    | with_reducible exact (meek_behind _).any
    | with_reducible exact (meek_asNumber _ _).any
    | with_reducible exact (meek_noView _).any
    | with_reducible exact (meek_byteOf _).any
    | with_reducible exact (meek_fieldPlace _ _).any
    | with_reducible exact (Meek.viewAt _).any
    | with_reducible exact (Meek.numberAt _).any
    | with_reducible exact (Meek.program).any
    | with_reducible refine Meek.bind (N := fun _ => True) ?_ fun _ _ => ?_
    | with_reducible refine Meek.ite (fun _ => ?_) (fun _ => ?_)
    | split
    | dsimp only
theorem meek_intBits (op k x y) : Meek P q Z C (fun _ => True) (Op.intBits op k x y) := by
  unfold Op.intBits
  repeat' first
    | with_reducible exact Meek.pure trivial
    | with_reducible exact Meek.stuck
    | with_reducible exact Meek.goPanic
    | with_reducible exact Meek.unsup (fun g h => by cases h)
    | with_reducible exact Meek.runtimePanic _
    | with_reducible exact Meek.boundsPanic _ _ _ _
    | with_reducible exact Meek.noRoom
    | with_reducible exact (Meek.choose _).any
    | with_reducible exact (Meek.load _ _).any
    | with_reducible exact (Meek.store _ _ _).any
    | with_reducible exact (meek_typeInfo _).any
    | with_reducible exact (meek_underlying _).any
    | with_reducible exact (meek_typeStr _).any
    | with_reducible exact (meek_zeroValue _).any
    | with_reducible exact (meek_sizeOf _).any
    | with_reducible exact (meek_isAgg _).any
    | with_reducible exact (meek_loadCells _ _).any
    | with_reducible exact (meek_storeCells _ _ _).any
    | with_reducible exact (meek_loadVar _ _).any
    | with_reducible exact (meek_storeVar _ _ _).any
    | with_reducible exact (meek_newRow _ _).any
    | with_reducible exact (meek_newVar _ _).any
    | with_reducible exact (meek_elemOf _).any
    | with_reducible exact (meek_part _ _ _).any
    | with_reducible exact (meek_asIntOf _).any
    | with_reducible exact (meek_asInt _).any
    | with_reducible exact (meek_asBool _).any
    | with_reducible exact (meek_asString _).any
    | with_reducible exact (meek_asAgg _).any
    | with_reducible exact (meek_asAddr _).any
    | with_reducible exact (meek_askRoom _).any
    | with_reducible exact (meek_behind _).any
    | with_reducible exact (meek_asNumber _ _).any
    | with_reducible exact (meek_noView _).any
    | with_reducible exact (meek_byteOf _).any
    | with_reducible exact (meek_fieldPlace _ _).any
    | with_reducible exact (Meek.viewAt _).any
    | with_reducible exact (Meek.numberAt _).any
    | with_reducible exact (Meek.program).any
    | with_reducible refine Meek.bind (N := fun _ => True) ?_ fun _ _ => ?_
    | with_reducible refine Meek.ite (fun _ => ?_) (fun _ => ?_)
    | split
    | dsimp only
theorem meek_shift (op k x yk y) : Meek P q Z C (fun _ => True) (Op.shift op k x yk y) := by
  unfold Op.shift
  repeat' first
    | with_reducible exact Meek.pure trivial
    | with_reducible exact Meek.stuck
    | with_reducible exact Meek.goPanic
    | with_reducible exact Meek.unsup (fun g h => by cases h)
    | with_reducible exact Meek.runtimePanic _
    | with_reducible exact Meek.boundsPanic _ _ _ _
    | with_reducible exact Meek.noRoom
    | with_reducible exact (Meek.choose _).any
    | with_reducible exact (Meek.load _ _).any
    | with_reducible exact (Meek.store _ _ _).any
    | with_reducible exact (meek_typeInfo _).any
    | with_reducible exact (meek_underlying _).any
    | with_reducible exact (meek_typeStr _).any
    | with_reducible exact (meek_zeroValue _).any
    | with_reducible exact (meek_sizeOf _).any
    | with_reducible exact (meek_isAgg _).any
    | with_reducible exact (meek_loadCells _ _).any
    | with_reducible exact (meek_storeCells _ _ _).any
    | with_reducible exact (meek_loadVar _ _).any
    | with_reducible exact (meek_storeVar _ _ _).any
    | with_reducible exact (meek_newRow _ _).any
    | with_reducible exact (meek_newVar _ _).any
    | with_reducible exact (meek_elemOf _).any
    | with_reducible exact (meek_part _ _ _).any
    | with_reducible exact (meek_asIntOf _).any
    | with_reducible exact (meek_asInt _).any
    | with_reducible exact (meek_asBool _).any
    | with_reducible exact (meek_asString _).any
    | with_reducible exact (meek_asAgg _).any
    | with_reducible exact (meek_asAddr _).any
    | with_reducible exact (meek_askRoom _).any
    | with_reducible exact (meek_behind _).any
    | with_reducible exact (meek_asNumber _ _).any
    | with_reducible exact (meek_noView _).any
    | with_reducible exact (meek_byteOf _).any
    | with_reducible exact (meek_fieldPlace _ _).any
    | with_reducible exact (Meek.viewAt _).any
    | with_reducible exact (Meek.numberAt _).any
    | with_reducible exact (Meek.program).any
    | with_reducible refine Meek.bind (N := fun _ => True) ?_ fun _ _ => ?_
    | with_reducible refine Meek.ite (fun _ => ?_) (fun _ => ?_)
    | split
    | dsimp only
theorem meek_intCmp (op x y) : Meek P q Z C (fun _ => True) (Op.intCmp op x y) := by
  unfold Op.intCmp
  repeat' first
    | with_reducible exact Meek.pure trivial
    | with_reducible exact Meek.stuck
    | with_reducible exact Meek.goPanic
    | with_reducible exact Meek.unsup (fun g h => by cases h)
    | with_reducible exact Meek.runtimePanic _
    | with_reducible exact Meek.boundsPanic _ _ _ _
    | with_reducible exact Meek.noRoom
    | with_reducible exact (Meek.choose _).any
    | with_reducible exact (Meek.load _ _).any
    | with_reducible exact (Meek.store _ _ _).any
    | with_reducible exact (meek_typeInfo _).any
    | with_reducible exact (meek_underlying _).any
    | with_reducible exact (meek_typeStr _).any
    | with_reducible exact (meek_zeroValue _).any
    | with_reducible exact (meek_sizeOf _).any
    | with_reducible exact (meek_isAgg _).any
    | with_reducible exact (meek_loadCells _ _).any
    | with_reducible exact (meek_storeCells _ _ _).any
    | with_reducible exact (meek_loadVar _ _).any
    | with_reducible exact (meek_storeVar _ _ _).any
    | with_reducible exact (meek_newRow _ _).any
    | with_reducible exact (meek_newVar _ _).any
    | with_reducible exact (meek_elemOf _).any
    | with_reducible exact (meek_part _ _ _).any
    | with_reducible exact (meek_asIntOf _).any
    | with_reducible exact (meek_asInt _).any
    | with_reducible exact (meek_asBool _).any
    | with_reducible exact (meek_asString _).any
    | with_reducible exact (meek_asAgg _).any
    | with_reducible exact (meek_asAddr _).any
    | with_reducible exact (meek_askRoom _).any
    | with_reducible exact (meek_behind _).any
    | with_reducible exact (meek_asNumber _ _).any
    | with_reducible exact (meek_noView _).any
    | with_reducible exact (meek_byteOf _).any
    | with_reducible exact (meek_fieldPlace _ _).any
    | with_reducible exact (Meek.viewAt _).any
    | with_reducible exact (Meek.numberAt _).any
    | with_reducible exact (Meek.program).any
    | with_reducible refine Meek.bind (N := fun _ => True) ?_ fun _ _ => ?_
    | with_reducible refine Meek.ite (fun _ => ?_) (fun _ => ?_)
    | split
    | dsimp only
theorem meek_intDiv (op k x y) : Meek P q Z C (fun _ => True) (Op.intDiv op k x y) := by
  unfold Op.intDiv
  repeat' first
    | with_reducible exact Meek.pure trivial
    | with_reducible exact Meek.stuck
    | with_reducible exact Meek.goPanic
    | with_reducible exact Meek.unsup (fun g h => by cases h)
    | with_reducible exact Meek.runtimePanic _
    | with_reducible exact Meek.boundsPanic _ _ _ _
    | with_reducible exact Meek.noRoom
    | with_reducible exact (Meek.choose _).any
    | with_reducible exact (Meek.load _ _).any
    | with_reducible exact (Meek.store _ _ _).any
    | with_reducible exact (meek_typeInfo _).any
    | with_reducible exact (meek_underlying _).any
    | with_reducible exact (meek_typeStr _).any
    | with_reducible exact (meek_zeroValue _).any
    | with_reducible exact (meek_sizeOf _).any
    | with_reducible exact (meek_isAgg _).any
    | with_reducible exact (meek_loadCells _ _).any
    | with_reducible exact (meek_storeCells _ _ _).any
    | with_reducible exact (meek_loadVar _ _).any
    | with_reducible exact (meek_storeVar _ _ _).any
    | with_reducible exact (meek_newRow _ _).any
    | with_reducible exact (meek_newVar _ _).any
    | with_reducible exact (meek_elemOf _).any
    | with_reducible exact (meek_part _ _ _).any
    | with_reducible exact (meek_asIntOf _).any
    | with_reducible exact (meek_asInt _).any
    | with_reducible exact (meek_asBool _).any
    | with_reducible exact (meek_asString _).any
    | with_reducible exact (meek_asAgg _).any
    | with_reducible exact (meek_asAddr _).any
    | with_reducible exact (meek_askRoom _).any
    | with_reducible exact (meek_behind _).any
    | with_reducible exact (meek_asNumber _ _).any
    | with_reducible exact (meek_noView _).any
    | with_reducible exact (meek_byteOf _).any
    | with_reducible exact (meek_fieldPlace _ _).any
    | with_reducible exact (Meek.viewAt _).any
    | with_reducible exact (Meek.numberAt _).any
    | with_reducible exact (Meek.program).any
    | with_reducible refine Meek.bind (N := fun _ => True) ?_ fun _ _ => ?_
    | with_reducible refine Meek.ite (fun _ => ?_) (fun _ => ?_)
    | split
    | dsimp only
theorem meek_floatArith (op k x y) : Meek P q Z C (fun _ => True) (Op.floatArith op k x y) := by
  unfold Op.floatArith
  repeat' first
    | with_reducible exact Meek.pure trivial
    | with_reducible exact Meek.stuck
    | with_reducible exact Meek.goPanic
    | with_reducible exact Meek.unsup (fun g h => by cases h)
    | with_reducible exact Meek.runtimePanic _
    | with_reducible exact Meek.boundsPanic _ _ _ _
    | with_reducible exact Meek.noRoom
    | with_reducible exact (Meek.choose _).any
    | with_reducible exact (Meek.load _ _).any
    | with_reducible exact (Meek.store _ _ _).any
    | with_reducible exact (meek_typeInfo _).any
    | with_reducible exact (meek_underlying _).any
    | with_reducible exact (meek_typeStr _).any
    | with_reducible exact (meek_zeroValue _).any
    | with_reducible exact (meek_sizeOf _).any
    | with_reducible exact (meek_isAgg _).any
    | with_reducible exact (meek_loadCells _ _).any
    | with_reducible exact (meek_storeCells _ _ _).any
    | with_reducible exact (meek_loadVar _ _).any
    | with_reducible exact (meek_storeVar _ _ _).any
    | with_reducible exact (meek_newRow _ _).any
    | with_reducible exact (meek_newVar _ _).any
    | with_reducible exact (meek_elemOf _).any
    | with_reducible exact (meek_part _ _ _).any
    | with_reducible exact (meek_asIntOf _).any
    | with_reducible exact (meek_asInt _).any
    | with_reducible exact (meek_asBool _).any
    | with_reducible exact (meek_asString _).any
    | with_reducible exact (meek_asAgg _).any
    | with_reducible exact (meek_asAddr _).any
    | with_reducible exact (meek_askRoom _).any
    | with_reducible exact (meek_behind _).any
    | with_reducible exact (meek_asNumber _ _).any
    | with_reducible exact (meek_noView _).any
    | with_reducible exact (meek_byteOf _).any
    | with_reducible exact (meek_fieldPlace _ _).any
    | with_reducible exact (Meek.viewAt _).any
    | with_reducible exact (Meek.numberAt _).any
    | with_reducible exact (Meek.program).any
    | with_reducible refine Meek.bind (N := fun _ => True) ?_ fun _ _ => ?_
    | with_reducible refine Meek.ite (fun _ => ?_) (fun _ => ?_)
    | split
    | dsimp only
theorem meek_floatCmp (op k x y) : Meek P q Z C (fun _ => True) (Op.floatCmp op k x y) := by
  unfold Op.floatCmp
  repeat' first
    | with_reducible exact Meek.pure trivial
    | with_reducible exact Meek.stuck
    | with_reducible exact Meek.goPanic
    | with_reducible exact Meek.unsup (fun g h => by cases h)
    | with_reducible exact Meek.runtimePanic _
    | with_reducible exact Meek.boundsPanic _ _ _ _
    | with_reducible exact Meek.noRoom
    | with_reducible exact (Meek.choose _).any
    | with_reducible exact (Meek.load _ _).any
    | with_reducible exact (Meek.store _ _ _).any
    | with_reducible exact (meek_typeInfo _).any
    | with_reducible exact (meek_underlying _).any
    | with_reducible exact (meek_typeStr _).any
    | with_reducible exact (meek_zeroValue _).any
    | with_reducible exact (meek_sizeOf _).any
    | with_reducible exact (meek_isAgg _).any
    | with_reducible exact (meek_loadCells _ _).any
    | with_reducible exact (meek_storeCells _ _ _).any
    | with_reducible exact (meek_loadVar _ _).any
    | with_reducible exact (meek_storeVar _ _ _).any
    | with_reducible exact (meek_newRow _ _).any
    | with_reducible exact (meek_newVar _ _).any
    | with_reducible exact (meek_elemOf _).any
    | with_reducible exact (meek_part _ _ _).any
    | with_reducible exact (meek_asIntOf _).any
    | with_reducible exact (meek_asInt _).any
    | with_reducible exact (meek_asBool _).any
    | with_reducible exact (meek_asString _).any
    | with_reducible exact (meek_asAgg _).any
    | with_reducible exact (meek_asAddr _).any
    | with_reducible exact (meek_askRoom _).any
    | with_reducible exact (meek_behind _).any
    | with_reducible exact (meek_asNumber _ _).any
    | with_reducible exact (meek_noView _).any
    | with_reducible exact (meek_byteOf _).any
    | with_reducible exact (meek_fieldPlace _ _).any
    | with_reducible exact (Meek.viewAt _).any
    | with_reducible exact (Meek.numberAt _).any
    | with_reducible exact (Meek.program).any
    | with_reducible refine Meek.bind (N := fun _ => True) ?_ fun _ _ => ?_
    | with_reducible refine Meek.ite (fun _ => ?_) (fun _ => ?_)
    | split
    | dsimp only
theorem meek_floatToFloat (k x y) : Meek P q Z C (fun _ => True) (Conv.floatToFloat k x y) := by
  unfold Conv.floatToFloat
  repeat' first
    | with_reducible exact Meek.pure trivial
    | with_reducible exact Meek.stuck
    | with_reducible exact Meek.goPanic
    | with_reducible exact Meek.unsup (fun g h => by cases h)
    | with_reducible exact Meek.runtimePanic _
    | with_reducible exact Meek.boundsPanic _ _ _ _
    | with_reducible exact Meek.noRoom
    | with_reducible exact (Meek.choose _).any
    | with_reducible exact (Meek.load _ _).any
    | with_reducible exact (Meek.store _ _ _).any
    | with_reducible exact (meek_typeInfo _).any
    | with_reducible exact (meek_underlying _).any
    | with_reducible exact (meek_typeStr _).any
    | with_reducible exact (meek_zeroValue _).any
    | with_reducible exact (meek_sizeOf _).any
    | with_reducible exact (meek_isAgg _).any
    | with_reducible exact (meek_loadCells _ _).any
    | with_reducible exact (meek_storeCells _ _ _).any
    | with_reducible exact (meek_loadVar _ _).any
    | with_reducible exact (meek_storeVar _ _ _).any
    | with_reducible exact (meek_newRow _ _).any
    | with_reducible exact (meek_newVar _ _).any
    | with_reducible exact (meek_elemOf _).any
    | with_reducible exact (meek_part _ _ _).any
    | with_reducible exact (meek_asIntOf _).any
    | with_reducible exact (meek_asInt _).any
    | with_reducible exact (meek_asBool _).any
    | with_reducible exact (meek_asString _).any
    | with_reducible exact (meek_asAgg _).any
    | with_reducible exact (meek_asAddr _).any
    | with_reducible exact (meek_askRoom _).any
    | with_reducible exact (meek_behind _).any
    | with_reducible exact (meek_asNumber _ _).any
    | with_reducible exact (meek_noView _).any
    | with_reducible exact (meek_byteOf _).any
    | with_reducible exact (meek_fieldPlace _ _).any
    | with_reducible exact (Meek.viewAt _).any
    | with_reducible exact (Meek.numberAt _).any
    | with_reducible exact (Meek.program).any
    | with_reducible refine Meek.bind (N := fun _ => True) ?_ fun _ _ => ?_
    | with_reducible refine Meek.ite (fun _ => ?_) (fun _ => ?_)
    | split
    | dsimp only
theorem meek_stringOp (op x y) : Meek P q Z C (fun _ => True) (Op.stringOp op x y) := by
  unfold Op.stringOp
  repeat' first
    | with_reducible exact Meek.pure trivial
    | with_reducible exact Meek.stuck
    | with_reducible exact Meek.goPanic
    | with_reducible exact Meek.unsup (fun g h => by cases h)
    | with_reducible exact Meek.runtimePanic _
    | with_reducible exact Meek.boundsPanic _ _ _ _
    | with_reducible exact Meek.noRoom
    | with_reducible exact (Meek.choose _).any
    | with_reducible exact (Meek.load _ _).any
    | with_reducible exact (Meek.store _ _ _).any
    | with_reducible exact (meek_typeInfo _).any
    | with_reducible exact (meek_underlying _).any
    | with_reducible exact (meek_typeStr _).any
    | with_reducible exact (meek_zeroValue _).any
    | with_reducible exact (meek_sizeOf _).any
    | with_reducible exact (meek_isAgg _).any
    | with_reducible exact (meek_loadCells _ _).any
    | with_reducible exact (meek_storeCells _ _ _).any
    | with_reducible exact (meek_loadVar _ _).any
    | with_reducible exact (meek_storeVar _ _ _).any
    | with_reducible exact (meek_newRow _ _).any
    | with_reducible exact (meek_newVar _ _).any
    | with_reducible exact (meek_elemOf _).any
    | with_reducible exact (meek_part _ _ _).any
    | with_reducible exact (meek_asIntOf _).any
    | with_reducible exact (meek_asInt _).any
    | with_reducible exact (meek_asBool _).any
    | with_reducible exact (meek_asString _).any
    | with_reducible exact (meek_asAgg _).any
    | with_reducible exact (meek_asAddr _).any
    | with_reducible exact (meek_askRoom _).any
    | with_reducible exact (meek_behind _).any
    | with_reducible exact (meek_asNumber _ _).any
    | with_reducible exact (meek_noView _).any
    | with_reducible exact (meek_byteOf _).any
    | with_reducible exact (meek_fieldPlace _ _).any
    | with_reducible exact (Meek.viewAt _).any
    | with_reducible exact (Meek.numberAt _).any
    | with_reducible exact (Meek.program).any
    | with_reducible refine Meek.bind (N := fun _ => True) ?_ fun _ _ => ?_
    | with_reducible refine Meek.ite (fun _ => ?_) (fun _ => ?_)
    | split
    | dsimp only
theorem meek_cArith (op k x y) : Meek P q Z C (fun _ => True) (Op.Complex.arith op k x y) := by
  unfold Op.Complex.arith
  repeat' first
    | with_reducible exact Meek.pure trivial
    | with_reducible exact Meek.stuck
    | with_reducible exact Meek.goPanic
    | with_reducible exact Meek.unsup (fun g h => by cases h)
    | with_reducible exact Meek.runtimePanic _
    | with_reducible exact Meek.boundsPanic _ _ _ _
    | with_reducible exact (meek_floatArith _ _ _ _).any
    | with_reducible exact Meek.noRoom
    | with_reducible exact (Meek.choose _).any
    | with_reducible exact (Meek.load _ _).any
    | with_reducible exact (Meek.store _ _ _).any
    | with_reducible exact (meek_typeInfo _).any
    | with_reducible exact (meek_underlying _).any
    | with_reducible exact (meek_typeStr _).any
    | with_reducible exact (meek_zeroValue _).any
    | with_reducible exact (meek_sizeOf _).any
    | with_reducible exact (meek_isAgg _).any
    | with_reducible exact (meek_loadCells _ _).any
    | with_reducible exact (meek_storeCells _ _ _).any
    | with_reducible exact (meek_loadVar _ _).any
    | with_reducible exact (meek_storeVar _ _ _).any
    | with_reducible exact (meek_newRow _ _).any
    | with_reducible exact (meek_newVar _ _).any
    | with_reducible exact (meek_elemOf _).any
    | with_reducible exact (meek_part _ _ _).any
    | with_reducible exact (meek_asIntOf _).any
    | with_reducible exact (meek_asInt _).any
    | with_reducible exact (meek_asBool _).any
    | with_reducible exact (meek_asString _).any
    | with_reducible exact (meek_asAgg _).any
    | with_reducible exact (meek_asAddr _).any
    | with_reducible exact (meek_askRoom _).any
    | with_reducible exact (meek_behind _).any
    | with_reducible exact (meek_asNumber _ _).any
    | with_reducible exact (meek_noView _).any
    | with_reducible exact (meek_byteOf _).any
    | with_reducible exact (meek_fieldPlace _ _).any
    | with_reducible exact (Meek.viewAt _).any
    | with_reducible exact (Meek.numberAt _).any
    | with_reducible exact (Meek.program).any
    | with_reducible refine Meek.bind (N := fun _ => True) ?_ fun _ _ => ?_
    | with_reducible refine Meek.ite (fun _ => ?_) (fun _ => ?_)
    | split
    | dsimp only
theorem meek_cCmp (op k x y) : Meek P q Z C (fun _ => True) (Op.Complex.cmp op k x y) := by
  unfold Op.Complex.cmp
  repeat' first
    | with_reducible exact Meek.pure trivial
    | with_reducible exact Meek.stuck
    | with_reducible exact Meek.goPanic
    | with_reducible exact Meek.unsup (fun g h => by cases h)
    | with_reducible exact Meek.runtimePanic _
    | with_reducible exact Meek.boundsPanic _ _ _ _
    | with_reducible exact (meek_floatCmp _ _ _ _).any
    | with_reducible exact Meek.noRoom
    | with_reducible exact (Meek.choose _).any
    | with_reducible exact (Meek.load _ _).any
    | with_reducible exact (Meek.store _ _ _).any
    | with_reducible exact (meek_typeInfo _).any
    | with_reducible exact (meek_underlying _).any
    | with_reducible exact (meek_typeStr _).any
    | with_reducible exact (meek_zeroValue _).any
    | with_reducible exact (meek_sizeOf _).any
    | with_reducible exact (meek_isAgg _).any
    | with_reducible exact (meek_loadCells _ _).any
    | with_reducible exact (meek_storeCells _ _ _).any
    | with_reducible exact (meek_loadVar _ _).any
    | with_reducible exact (meek_storeVar _ _ _).any
    | with_reducible exact (meek_newRow _ _).any
    | with_reducible exact (meek_newVar _ _).any
    | with_reducible exact (meek_elemOf _).any
    | with_reducible exact (meek_part _ _ _).any
    | with_reducible exact (meek_asIntOf _).any
    | with_reducible exact (meek_asInt _).any
    | with_reducible exact (meek_asBool _).any
    | with_reducible exact (meek_asString _).any
    | with_reducible exact (meek_asAgg _).any
    | with_reducible exact (meek_asAddr _).any
    | with_reducible exact (meek_askRoom _).any
    | with_reducible exact (meek_behind _).any
    | with_reducible exact (meek_asNumber _ _).any
    | with_reducible exact (meek_noView _).any
    | with_reducible exact (meek_byteOf _).any
    | with_reducible exact (meek_fieldPlace _ _).any
    | with_reducible exact (Meek.viewAt _).any
    | with_reducible exact (Meek.numberAt _).any
    | with_reducible exact (Meek.program).any
    | with_reducible refine Meek.bind (N := fun _ => True) ?_ fun _ _ => ?_
    | with_reducible refine Meek.ite (fun _ => ?_) (fun _ => ?_)
    | split
    | dsimp only
theorem meek_cConv (k x d) : Meek P q Z C (fun _ => True) (Op.Complex.conv k x d) := by
  unfold Op.Complex.conv
  repeat' first
    | with_reducible exact Meek.pure trivial
    | with_reducible exact Meek.stuck
    | with_reducible exact Meek.goPanic
    | with_reducible exact Meek.unsup (fun g h => by cases h)
    | with_reducible exact Meek.runtimePanic _
    | with_reducible exact Meek.boundsPanic _ _ _ _
    | with_reducible exact (meek_floatToFloat _ _ _).any
    | with_reducible exact Meek.noRoom
    | with_reducible exact (Meek.choose _).any
    | with_reducible exact (Meek.load _ _).any
    | with_reducible exact (Meek.store _ _ _).any
    | with_reducible exact (meek_typeInfo _).any
    | with_reducible exact (meek_underlying _).any
    | with_reducible exact (meek_typeStr _).any
    | with_reducible exact (meek_zeroValue _).any
    | with_reducible exact (meek_sizeOf _).any
    | with_reducible exact (meek_isAgg _).any
    | with_reducible exact (meek_loadCells _ _).any
    | with_reducible exact (meek_storeCells _ _ _).any
    | with_reducible exact (meek_loadVar _ _).any
    | with_reducible exact (meek_storeVar _ _ _).any
    | with_reducible exact (meek_newRow _ _).any
    | with_reducible exact (meek_newVar _ _).any
    | with_reducible exact (meek_elemOf _).any
    | with_reducible exact (meek_part _ _ _).any
    | with_reducible exact (meek_asIntOf _).any
    | with_reducible exact (meek_asInt _).any
    | with_reducible exact (meek_asBool _).any
    | with_reducible exact (meek_asString _).any
    | with_reducible exact (meek_asAgg _).any
    | with_reducible exact (meek_asAddr _).any
    | with_reducible exact (meek_askRoom _).any
    | with_reducible exact (meek_behind _).any
    | with_reducible exact (meek_asNumber _ _).any
    | with_reducible exact (meek_noView _).any
    | with_reducible exact (meek_byteOf _).any
    | with_reducible exact (meek_fieldPlace _ _).any
    | with_reducible exact (Meek.viewAt _).any
    | with_reducible exact (Meek.numberAt _).any
    | with_reducible exact (Meek.program).any
    | with_reducible refine Meek.bind (N := fun _ => True) ?_ fun _ _ => ?_
    | with_reducible refine Meek.ite (fun _ => ?_) (fun _ => ?_)
    | split
    | dsimp only
theorem meek_cProduct (a b c d) : Meek P q Z C (fun _ => True) (Op.Complex.product a b c d) := by
  unfold Op.Complex.product Op.Complex.sub Op.Complex.add Op.Complex.mul
  repeat' first
    | with_reducible exact Meek.pure trivial
    | with_reducible exact Meek.stuck
    | with_reducible exact Meek.goPanic
    | with_reducible exact Meek.unsup (fun g h => by cases h)
    | with_reducible exact Meek.runtimePanic _
    | with_reducible exact Meek.boundsPanic _ _ _ _
    | with_reducible exact (meek_cArith _ _ _ _).any
    | with_reducible exact Meek.noRoom
    | with_reducible exact (Meek.choose _).any
    | with_reducible exact (Meek.load _ _).any
    | with_reducible exact (Meek.store _ _ _).any
    | with_reducible exact (meek_typeInfo _).any
    | with_reducible exact (meek_underlying _).any
    | with_reducible exact (meek_typeStr _).any
    | with_reducible exact (meek_zeroValue _).any
    | with_reducible exact (meek_sizeOf _).any
    | with_reducible exact (meek_isAgg _).any
    | with_reducible exact (meek_loadCells _ _).any
    | with_reducible exact (meek_storeCells _ _ _).any
    | with_reducible exact (meek_loadVar _ _).any
    | with_reducible exact (meek_storeVar _ _ _).any
    | with_reducible exact (meek_newRow _ _).any
    | with_reducible exact (meek_newVar _ _).any
    | with_reducible exact (meek_elemOf _).any
    | with_reducible exact (meek_part _ _ _).any
    | with_reducible exact (meek_asIntOf _).any
    | with_reducible exact (meek_asInt _).any
    | with_reducible exact (meek_asBool _).any
    | with_reducible exact (meek_asString _).any
    | with_reducible exact (meek_asAgg _).any
    | with_reducible exact (meek_asAddr _).any
    | with_reducible exact (meek_askRoom _).any
    | with_reducible exact (meek_behind _).any
    | with_reducible exact (meek_asNumber _ _).any
    | with_reducible exact (meek_noView _).any
    | with_reducible exact (meek_byteOf _).any
    | with_reducible exact (meek_fieldPlace _ _).any
    | with_reducible exact (Meek.viewAt _).any
    | with_reducible exact (Meek.numberAt _).any
    | with_reducible exact (Meek.program).any
    | with_reducible refine Meek.bind (N := fun _ => True) ?_ fun _ _ => ?_
    | with_reducible refine Meek.ite (fun _ => ?_) (fun _ => ?_)
    | split
    | dsimp only
theorem meek_cCorrected (s a b c d) : Meek P q Z C (fun _ => True) (Op.Complex.corrected s a b c d) := by
  unfold Op.Complex.corrected Op.Complex.sub Op.Complex.add Op.Complex.mul
  repeat' first
    | with_reducible exact Meek.pure trivial
    | with_reducible exact Meek.stuck
    | with_reducible exact Meek.goPanic
    | with_reducible exact Meek.unsup (fun g h => by cases h)
    | with_reducible exact Meek.runtimePanic _
    | with_reducible exact Meek.boundsPanic _ _ _ _
    | with_reducible exact (meek_cArith _ _ _ _).any
    | with_reducible exact Meek.noRoom
    | with_reducible exact (Meek.choose _).any
    | with_reducible exact (Meek.load _ _).any
    | with_reducible exact (Meek.store _ _ _).any
    | with_reducible exact (meek_typeInfo _).any
    | with_reducible exact (meek_underlying _).any
    | with_reducible exact (meek_typeStr _).any
    | with_reducible exact (meek_zeroValue _).any
    | with_reducible exact (meek_sizeOf _).any
    | with_reducible exact (meek_isAgg _).any
    | with_reducible exact (meek_loadCells _ _).any
    | with_reducible exact (meek_storeCells _ _ _).any
    | with_reducible exact (meek_loadVar _ _).any
    | with_reducible exact (meek_storeVar _ _ _).any
    | with_reducible exact (meek_newRow _ _).any
    | with_reducible exact (meek_newVar _ _).any
    | with_reducible exact (meek_elemOf _).any
    | with_reducible exact (meek_part _ _ _).any
    | with_reducible exact (meek_asIntOf _).any
    | with_reducible exact (meek_asInt _).any
    | with_reducible exact (meek_asBool _).any
    | with_reducible exact (meek_asString _).any
    | with_reducible exact (meek_asAgg _).any
    | with_reducible exact (meek_asAddr _).any
    | with_reducible exact (meek_askRoom _).any
    | with_reducible exact (meek_behind _).any
    | with_reducible exact (meek_asNumber _ _).any
    | with_reducible exact (meek_noView _).any
    | with_reducible exact (meek_byteOf _).any
    | with_reducible exact (meek_fieldPlace _ _).any
    | with_reducible exact (Meek.viewAt _).any
    | with_reducible exact (Meek.numberAt _).any
    | with_reducible exact (Meek.program).any
    | with_reducible refine Meek.bind (N := fun _ => True) ?_ fun _ _ => ?_
    | with_reducible refine Meek.ite (fun _ => ?_) (fun _ => ?_)
    | split
    | dsimp only
theorem meek_cQuotient (a b c d) : Meek P q Z C (fun _ => True) (Op.Complex.quotient a b c d) := by
  unfold Op.Complex.quotient Op.Complex.sub Op.Complex.add Op.Complex.mul Op.Complex.quo
  repeat' first
    | with_reducible exact Meek.pure trivial
    | with_reducible exact Meek.stuck
    | with_reducible exact Meek.goPanic
    | with_reducible exact Meek.unsup (fun g h => by cases h)
    | with_reducible exact Meek.runtimePanic _
    | with_reducible exact Meek.boundsPanic _ _ _ _
    | with_reducible exact (meek_cArith _ _ _ _).any
    | with_reducible exact (meek_cCmp _ _ _ _).any
    | with_reducible exact (meek_cCorrected _ _ _ _ _).any
    | with_reducible exact Meek.noRoom
    | with_reducible exact (Meek.choose _).any
    | with_reducible exact (Meek.load _ _).any
    | with_reducible exact (Meek.store _ _ _).any
    | with_reducible exact (meek_typeInfo _).any
    | with_reducible exact (meek_underlying _).any
    | with_reducible exact (meek_typeStr _).any
    | with_reducible exact (meek_zeroValue _).any
    | with_reducible exact (meek_sizeOf _).any
    | with_reducible exact (meek_isAgg _).any
    | with_reducible exact (meek_loadCells _ _).any
    | with_reducible exact (meek_storeCells _ _ _).any
    | with_reducible exact (meek_loadVar _ _).any
    | with_reducible exact (meek_storeVar _ _ _).any
    | with_reducible exact (meek_newRow _ _).any
    | with_reducible exact (meek_newVar _ _).any
    | with_reducible exact (meek_elemOf _).any
    | with_reducible exact (meek_part _ _ _).any
    | with_reducible exact (meek_asIntOf _).any
    | with_reducible exact (meek_asInt _).any
    | with_reducible exact (meek_asBool _).any
    | with_reducible exact (meek_asString _).any
    | with_reducible exact (meek_asAgg _).any
    | with_reducible exact (meek_asAddr _).any
    | with_reducible exact (meek_askRoom _).any
    | with_reducible exact (meek_behind _).any
    | with_reducible exact (meek_asNumber _ _).any
    | with_reducible exact (meek_noView _).any
    | with_reducible exact (meek_byteOf _).any
    | with_reducible exact (meek_fieldPlace _ _).any
    | with_reducible exact (Meek.viewAt _).any
    | with_reducible exact (Meek.numberAt _).any
    | with_reducible exact (Meek.program).any
    | with_reducible refine Meek.bind (N := fun _ => True) ?_ fun _ _ => ?_
    | with_reducible refine Meek.ite (fun _ => ?_) (fun _ => ?_)
    | split
    | dsimp only
theorem meek_complexOp (op k a b c d) : Meek P q Z C (fun _ => True) (Op.complexOp op k a b c d) := by
  unfold Op.complexOp
  repeat' first
    | with_reducible exact Meek.pure trivial
    | with_reducible exact Meek.stuck
    | with_reducible exact Meek.goPanic
    | with_reducible exact Meek.unsup (fun g h => by cases h)
    | with_reducible exact Meek.runtimePanic _
    | with_reducible exact Meek.boundsPanic _ _ _ _
    | with_reducible exact (meek_cArith _ _ _ _).any
    | with_reducible exact (meek_cCmp _ _ _ _).any
    | with_reducible exact (meek_cConv _ _ _).any
    | with_reducible exact (meek_cProduct _ _ _ _).any
    | with_reducible exact (meek_cQuotient _ _ _ _).any
    | with_reducible exact Meek.noRoom
    | with_reducible exact (Meek.choose _).any
    | with_reducible exact (Meek.load _ _).any
    | with_reducible exact (Meek.store _ _ _).any
    | with_reducible exact (meek_typeInfo _).any
    | with_reducible exact (meek_underlying _).any
    | with_reducible exact (meek_typeStr _).any
    | with_reducible exact (meek_zeroValue _).any
    | with_reducible exact (meek_sizeOf _).any
    | with_reducible exact (meek_isAgg _).any
    | with_reducible exact (meek_loadCells _ _).any
    | with_reducible exact (meek_storeCells _ _ _).any
    | with_reducible exact (meek_loadVar _ _).any
    | with_reducible exact (meek_storeVar _ _ _).any
    | with_reducible exact (meek_newRow _ _).any
    | with_reducible exact (meek_newVar _ _).any
    | with_reducible exact (meek_elemOf _).any
    | with_reducible exact (meek_part _ _ _).any
    | with_reducible exact (meek_asIntOf _).any
    | with_reducible exact (meek_asInt _).any
    | with_reducible exact (meek_asBool _).any
    | with_reducible exact (meek_asString _).any
    | with_reducible exact (meek_asAgg _).any
    | with_reducible exact (meek_asAddr _).any
    | with_reducible exact (meek_askRoom _).any
    | with_reducible exact (meek_behind _).any
    | with_reducible exact (meek_asNumber _ _).any
    | with_reducible exact (meek_noView _).any
    | with_reducible exact (meek_byteOf _).any
    | with_reducible exact (meek_fieldPlace _ _).any
    | with_reducible exact (Meek.viewAt _).any
    | with_reducible exact (Meek.numberAt _).any
    | with_reducible exact (Meek.program).any
    | with_reducible refine Meek.bind (N := fun _ => True) ?_ fun _ _ => ?_
    | with_reducible refine Meek.ite (fun _ => ?_) (fun _ => ?_)
    | split
    | dsimp only
theorem meek_unary (op x) : Meek P q Z C (fun _ => True) (Op.unary op x) := by
  unfold Op.unary
  repeat' first
    | with_reducible exact Meek.pure trivial
    | with_reducible exact Meek.stuck
    | with_reducible exact Meek.goPanic
    | with_reducible exact Meek.unsup (fun g h => by cases h)
    | with_reducible exact Meek.runtimePanic _
    | with_reducible exact Meek.boundsPanic _ _ _ _
    | with_reducible exact (meek_intArith _ _ _ _).any
    | with_reducible exact (meek_intBits _ _ _ _).any
    | with_reducible exact Meek.noRoom
    | with_reducible exact (Meek.choose _).any
    | with_reducible exact (Meek.load _ _).any
    | with_reducible exact (Meek.store _ _ _).any
    | with_reducible exact (meek_typeInfo _).any
    | with_reducible exact (meek_underlying _).any
    | with_reducible exact (meek_typeStr _).any
    | with_reducible exact (meek_zeroValue _).any
    | with_reducible exact (meek_sizeOf _).any
    | with_reducible exact (meek_isAgg _).any
    | with_reducible exact (meek_loadCells _ _).any
    | with_reducible exact (meek_storeCells _ _ _).any
    | with_reducible exact (meek_loadVar _ _).any
    | with_reducible exact (meek_storeVar _ _ _).any
    | with_reducible exact (meek_newRow _ _).any
    | with_reducible exact (meek_newVar _ _).any
    | with_reducible exact (meek_elemOf _).any
    | with_reducible exact (meek_part _ _ _).any
    | with_reducible exact (meek_asIntOf _).any
    | with_reducible exact (meek_asInt _).any
    | with_reducible exact (meek_asBool _).any
    | with_reducible exact (meek_asString _).any
    | with_reducible exact (meek_asAgg _).any
    | with_reducible exact (meek_asAddr _).any
    | with_reducible exact (meek_askRoom _).any
    | with_reducible exact (meek_behind _).any
    | with_reducible exact (meek_asNumber _ _).any
    | with_reducible exact (meek_noView _).any
    | with_reducible exact (meek_byteOf _).any
    | with_reducible exact (meek_fieldPlace _ _).any
    | with_reducible exact (Meek.viewAt _).any
    | with_reducible exact (Meek.numberAt _).any
    | with_reducible exact (Meek.program).any
    | with_reducible refine Meek.bind (N := fun _ => True) ?_ fun _ _ => ?_
    | with_reducible refine Meek.ite (fun _ => ?_) (fun _ => ?_)
    | split
    | dsimp only

/-! ### addresses where numbers are looked for -/
theorem add_none (p : Program) (e : TypeId) (o : Nat) (m : Int) : cellAtBytes p p.depth e (0 / p.cellsOf e) o m = none := by
  unfold cellAtBytes
  simp only [Nat.zero_div]
  by_cases h0 : p.cellsOf e = 0 ∨ p.bytesOf e = 0
  · rcases h0 with h | h <;> simp [h]
  · simp only [not_or] at h0
    simp only [h0.1, h0.2]
    cases byteOfCell p p.depth e (o % p.cellsOf e) with
    | none => simp
    | some b =>
      simp
      intro h1
      omega
theorem meek_unsafeAdd (a t x y) : Meek P q Z C (fun _ => True) (Builtin.unsafeAdd_ a t #[x, y]) := by
  unfold Builtin.unsafeAdd_
  cases x with
  | pointer ptr =>
    refine Meek.bind (s := asInt y) (meek_asInt y) fun n _ => ?_
    dsimp only
    repeat' first
      | with_reducible exact Meek.pure trivial
      | with_reducible exact Meek.stuck
      | with_reducible exact Meek.goPanic
      | with_reducible exact Meek.unsup (fun g h => by cases h)
      | with_reducible exact Meek.runtimePanic _
      | with_reducible exact Meek.boundsPanic _ _ _ _
      | with_reducible exact Meek.noRoom
      | with_reducible exact (Meek.choose _).any
      | with_reducible exact (Meek.load _ _).any
      | with_reducible exact (Meek.store _ _ _).any
      | with_reducible exact (meek_typeInfo _).any
      | with_reducible exact (meek_underlying _).any
      | with_reducible exact (meek_typeStr _).any
      | with_reducible exact (meek_zeroValue _).any
      | with_reducible exact (meek_sizeOf _).any
      | with_reducible exact (meek_isAgg _).any
      | with_reducible exact (meek_loadCells _ _).any
      | with_reducible exact (meek_storeCells _ _ _).any
      | with_reducible exact (meek_loadVar _ _).any
      | with_reducible exact (meek_storeVar _ _ _).any
      | with_reducible exact (meek_newRow _ _).any
      | with_reducible exact (meek_newVar _ _).any
      | with_reducible exact (meek_elemOf _).any
      | with_reducible exact (meek_part _ _ _).any
      | with_reducible exact (meek_asIntOf _).any
      | with_reducible exact (meek_asInt _).any
      | with_reducible exact (meek_asBool _).any
      | with_reducible exact (meek_asString _).any
      | with_reducible exact (meek_asAgg _).any
      | with_reducible exact (meek_asAddr _).any
      | with_reducible exact (meek_askRoom _).any
      | with_reducible exact (meek_behind _).any
      | with_reducible exact (meek_asNumber _ _).any
      | with_reducible exact (meek_noView _).any
      | with_reducible exact (meek_byteOf _).any
      | with_reducible exact (meek_fieldPlace _ _).any
      | with_reducible exact (Meek.viewAt _).any
      | with_reducible exact (Meek.numberAt _).any
      | with_reducible exact (Meek.program).any
      | with_reducible refine Meek.shapeBind _ (fun s => ?_) (fun t n => .inr ?_)
      | (with_reducible refine Meek.bindDead Meek.program fun p hp => ?_)
      | (rw [add_none]; exact Dead.unsupported (fun g h => by cases h))
      | with_reducible refine Meek.bind (N := fun _ => True) ?_ fun _ _ => ?_
      | with_reducible refine Meek.ite (fun _ => ?_) (fun _ => ?_)
      | split
      | dsimp only
  | _ => exact Meek.stuck
theorem meek_movedNumber (t x y) : Meek P q Z C (fun _ => True) (movedNumber t x y) := by
  unfold movedNumber
  repeat' first
    | with_reducible exact Meek.pure trivial
    | with_reducible exact Meek.stuck
    | with_reducible exact Meek.goPanic
    | with_reducible exact Meek.unsup (fun g h => by cases h)
    | with_reducible exact Meek.runtimePanic _
    | with_reducible exact Meek.boundsPanic _ _ _ _
    | with_reducible exact (meek_unsafeAdd _ _ _ _).any
    | with_reducible exact Meek.noRoom
    | with_reducible exact (Meek.choose _).any
    | with_reducible exact (Meek.load _ _).any
    | with_reducible exact (Meek.store _ _ _).any
    | with_reducible exact (meek_typeInfo _).any
    | with_reducible exact (meek_underlying _).any
    | with_reducible exact (meek_typeStr _).any
    | with_reducible exact (meek_zeroValue _).any
    | with_reducible exact (meek_sizeOf _).any
    | with_reducible exact (meek_isAgg _).any
    | with_reducible exact (meek_loadCells _ _).any
    | with_reducible exact (meek_storeCells _ _ _).any
    | with_reducible exact (meek_loadVar _ _).any
    | with_reducible exact (meek_storeVar _ _ _).any
    | with_reducible exact (meek_newRow _ _).any
    | with_reducible exact (meek_newVar _ _).any
    | with_reducible exact (meek_elemOf _).any
    | with_reducible exact (meek_part _ _ _).any
    | with_reducible exact (meek_asIntOf _).any
    | with_reducible exact (meek_asInt _).any
    | with_reducible exact (meek_asBool _).any
    | with_reducible exact (meek_asString _).any
    | with_reducible exact (meek_asAgg _).any
    | with_reducible exact (meek_asAddr _).any
    | with_reducible exact (meek_askRoom _).any
    | with_reducible exact (meek_behind _).any
    | with_reducible exact (meek_asNumber _ _).any
    | with_reducible exact (meek_noView _).any
    | with_reducible exact (meek_byteOf _).any
    | with_reducible exact (meek_fieldPlace _ _).any
    | with_reducible exact (Meek.viewAt _).any
    | with_reducible exact (Meek.numberAt _).any
    | with_reducible exact (Meek.program).any
    | with_reducible refine Meek.bind (N := fun _ => True) ?_ fun _ _ => ?_
    | with_reducible refine Meek.ite (fun _ => ?_) (fun _ => ?_)
    | split
    | dsimp only
theorem meek_movedPointer (t x y) : Meek P q Z C (fun _ => True) (movedPointer t x y) := by
  unfold movedPointer
  repeat' first
    | with_reducible exact Meek.pure trivial
    | with_reducible exact Meek.stuck
    | with_reducible exact Meek.goPanic
    | with_reducible exact Meek.unsup (fun g h => by cases h)
    | with_reducible exact Meek.runtimePanic _
    | with_reducible exact Meek.boundsPanic _ _ _ _
    | with_reducible exact (meek_unsafeAdd _ _ _ _).any
    | with_reducible exact Meek.noRoom
    | with_reducible exact (Meek.choose _).any
    | with_reducible exact (Meek.load _ _).any
    | with_reducible exact (Meek.store _ _ _).any
    | with_reducible exact (meek_typeInfo _).any
    | with_reducible exact (meek_underlying _).any
    | with_reducible exact (meek_typeStr _).any
    | with_reducible exact (meek_zeroValue _).any
    | with_reducible exact (meek_sizeOf _).any
    | with_reducible exact (meek_isAgg _).any
    | with_reducible exact (meek_loadCells _ _).any
    | with_reducible exact (meek_storeCells _ _ _).any
    | with_reducible exact (meek_loadVar _ _).any
    | with_reducible exact (meek_storeVar _ _ _).any
    | with_reducible exact (meek_newRow _ _).any
    | with_reducible exact (meek_newVar _ _).any
    | with_reducible exact (meek_elemOf _).any
    | with_reducible exact (meek_part _ _ _).any
    | with_reducible exact (meek_asIntOf _).any
    | with_reducible exact (meek_asInt _).any
    | with_reducible exact (meek_asBool _).any
    | with_reducible exact (meek_asString _).any
    | with_reducible exact (meek_asAgg _).any
    | with_reducible exact (meek_asAddr _).any
    | with_reducible exact (meek_askRoom _).any
    | with_reducible exact (meek_behind _).any
    | with_reducible exact (meek_asNumber _ _).any
    | with_reducible exact (meek_noView _).any
    | with_reducible exact (meek_byteOf _).any
    | with_reducible exact (meek_fieldPlace _ _).any
    | with_reducible exact (Meek.viewAt _).any
    | with_reducible exact (Meek.numberAt _).any
    | with_reducible exact (Meek.program).any
    | with_reducible refine Meek.bind (N := fun _ => True) ?_ fun _ _ => ?_
    | with_reducible refine Meek.ite (fun _ => ?_) (fun _ => ?_)
    | split
    | dsimp only
theorem meek_twoPlaces (a b) : Meek P q Z C (fun _ => True) (Op.twoPlaces a b) := by
  unfold Op.twoPlaces
  repeat' first
    | with_reducible exact Meek.pure trivial
    | with_reducible exact Meek.stuck
    | with_reducible exact Meek.goPanic
    | with_reducible exact Meek.unsup (fun g h => by cases h)
    | with_reducible exact Meek.runtimePanic _
    | with_reducible exact Meek.boundsPanic _ _ _ _
    | with_reducible exact Meek.noRoom
    | with_reducible exact (Meek.choose _).any
    | with_reducible exact (Meek.load _ _).any
    | with_reducible exact (Meek.store _ _ _).any
    | with_reducible exact (meek_typeInfo _).any
    | with_reducible exact (meek_underlying _).any
    | with_reducible exact (meek_typeStr _).any
    | with_reducible exact (meek_zeroValue _).any
    | with_reducible exact (meek_sizeOf _).any
    | with_reducible exact (meek_isAgg _).any
    | with_reducible exact (meek_loadCells _ _).any
    | with_reducible exact (meek_storeCells _ _ _).any
    | with_reducible exact (meek_loadVar _ _).any
    | with_reducible exact (meek_storeVar _ _ _).any
    | with_reducible exact (meek_newRow _ _).any
    | with_reducible exact (meek_newVar _ _).any
    | with_reducible exact (meek_elemOf _).any
    | with_reducible exact (meek_part _ _ _).any
    | with_reducible exact (meek_asIntOf _).any
    | with_reducible exact (meek_asInt _).any
    | with_reducible exact (meek_asBool _).any
    | with_reducible exact (meek_asString _).any
    | with_reducible exact (meek_asAgg _).any
    | with_reducible exact (meek_asAddr _).any
    | with_reducible exact (meek_askRoom _).any
    | with_reducible exact (meek_behind _).any
    | with_reducible exact (meek_asNumber _ _).any
    | with_reducible exact (meek_noView _).any
    | with_reducible exact (meek_byteOf _).any
    | with_reducible exact (meek_fieldPlace _ _).any
    | with_reducible exact (Meek.viewAt _).any
    | with_reducible exact (Meek.numberAt _).any
    | with_reducible exact (Meek.program).any
    | with_reducible refine Meek.bind (N := fun _ => True) ?_ fun _ _ => ?_
    | with_reducible refine Meek.ite (fun _ => ?_) (fun _ => ?_)
    | split
    | dsimp only
theorem meek_addrSub (k a b) : Meek P q Z C (fun _ => True) (Op.addrSub k a b) := by
  unfold Op.addrSub
  repeat' first
    | with_reducible exact Meek.pure trivial
    | with_reducible exact Meek.stuck
    | with_reducible exact Meek.goPanic
    | with_reducible exact Meek.unsup (fun g h => by cases h)
    | with_reducible exact Meek.runtimePanic _
    | with_reducible exact Meek.boundsPanic _ _ _ _
    | with_reducible exact (meek_twoPlaces _ _).any
    | with_reducible exact Meek.noRoom
    | with_reducible exact (Meek.choose _).any
    | with_reducible exact (Meek.load _ _).any
    | with_reducible exact (Meek.store _ _ _).any
    | with_reducible exact (meek_typeInfo _).any
    | with_reducible exact (meek_underlying _).any
    | with_reducible exact (meek_typeStr _).any
    | with_reducible exact (meek_zeroValue _).any
    | with_reducible exact (meek_sizeOf _).any
    | with_reducible exact (meek_isAgg _).any
    | with_reducible exact (meek_loadCells _ _).any
    | with_reducible exact (meek_storeCells _ _ _).any
    | with_reducible exact (meek_loadVar _ _).any
    | with_reducible exact (meek_storeVar _ _ _).any
    | with_reducible exact (meek_newRow _ _).any
    | with_reducible exact (meek_newVar _ _).any
    | with_reducible exact (meek_elemOf _).any
    | with_reducible exact (meek_part _ _ _).any
    | with_reducible exact (meek_asIntOf _).any
    | with_reducible exact (meek_asInt _).any
    | with_reducible exact (meek_asBool _).any
    | with_reducible exact (meek_asString _).any
    | with_reducible exact (meek_asAgg _).any
    | with_reducible exact (meek_asAddr _).any
    | with_reducible exact (meek_askRoom _).any
    | with_reducible exact (meek_behind _).any
    | with_reducible exact (meek_asNumber _ _).any
    | with_reducible exact (meek_noView _).any
    | with_reducible exact (meek_byteOf _).any
    | with_reducible exact (meek_fieldPlace _ _).any
    | with_reducible exact (Meek.viewAt _).any
    | with_reducible exact (Meek.numberAt _).any
    | with_reducible exact (Meek.program).any
    | with_reducible refine Meek.bind (N := fun _ => True) ?_ fun _ _ => ?_
    | with_reducible refine Meek.ite (fun _ => ?_) (fun _ => ?_)
    | split
    | dsimp only
theorem meek_addrCmp (k a b) : Meek P q Z C (fun _ => True) (Op.addrCmp k a b) := by
  unfold Op.addrCmp
  repeat' first
    | with_reducible exact Meek.pure trivial
    | with_reducible exact Meek.stuck
    | with_reducible exact Meek.goPanic
    | with_reducible exact Meek.unsup (fun g h => by cases h)
    | with_reducible exact Meek.runtimePanic _
    | with_reducible exact Meek.boundsPanic _ _ _ _
    | with_reducible exact (meek_twoPlaces _ _).any
    | with_reducible exact Meek.noRoom
    | with_reducible exact (Meek.choose _).any
    | with_reducible exact (Meek.load _ _).any
    | with_reducible exact (Meek.store _ _ _).any
    | with_reducible exact (meek_typeInfo _).any
    | with_reducible exact (meek_underlying _).any
    | with_reducible exact (meek_typeStr _).any
    | with_reducible exact (meek_zeroValue _).any
    | with_reducible exact (meek_sizeOf _).any
    | with_reducible exact (meek_isAgg _).any
    | with_reducible exact (meek_loadCells _ _).any
    | with_reducible exact (meek_storeCells _ _ _).any
    | with_reducible exact (meek_loadVar _ _).any
    | with_reducible exact (meek_storeVar _ _ _).any
    | with_reducible exact (meek_newRow _ _).any
    | with_reducible exact (meek_newVar _ _).any
    | with_reducible exact (meek_elemOf _).any
    | with_reducible exact (meek_part _ _ _).any
    | with_reducible exact (meek_asIntOf _).any
    | with_reducible exact (meek_asInt _).any
    | with_reducible exact (meek_asBool _).any
    | with_reducible exact (meek_asString _).any
    | with_reducible exact (meek_asAgg _).any
    | with_reducible exact (meek_asAddr _).any
    | with_reducible exact (meek_askRoom _).any
    | with_reducible exact (meek_behind _).any
    | with_reducible exact (meek_asNumber _ _).any
    | with_reducible exact (meek_noView _).any
    | with_reducible exact (meek_byteOf _).any
    | with_reducible exact (meek_fieldPlace _ _).any
    | with_reducible exact (Meek.viewAt _).any
    | with_reducible exact (Meek.numberAt _).any
    | with_reducible exact (Meek.program).any
    | with_reducible refine Meek.bind (N := fun _ => True) ?_ fun _ _ => ?_
    | with_reducible refine Meek.ite (fun _ => ?_) (fun _ => ?_)
    | split
    | dsimp only
theorem meek_addrMod (k a n) : Meek P q Z C (fun _ => True) (Op.addrMod k a n) := by
  unfold Op.addrMod
  refine Meek.shapeBind _ (fun s => ?_) (fun t n => .inl rfl)
  repeat' first
    | with_reducible exact Meek.pure trivial
    | with_reducible exact Meek.stuck
    | with_reducible exact Meek.goPanic
    | with_reducible exact Meek.unsup (fun g h => by cases h)
    | with_reducible exact Meek.runtimePanic _
    | with_reducible exact Meek.boundsPanic _ _ _ _
    | with_reducible exact Meek.noRoom
    | with_reducible exact (Meek.choose _).any
    | with_reducible exact (Meek.load _ _).any
    | with_reducible exact (Meek.store _ _ _).any
    | with_reducible exact (meek_typeInfo _).any
    | with_reducible exact (meek_underlying _).any
    | with_reducible exact (meek_typeStr _).any
    | with_reducible exact (meek_zeroValue _).any
    | with_reducible exact (meek_sizeOf _).any
    | with_reducible exact (meek_isAgg _).any
    | with_reducible exact (meek_loadCells _ _).any
    | with_reducible exact (meek_storeCells _ _ _).any
    | with_reducible exact (meek_loadVar _ _).any
    | with_reducible exact (meek_storeVar _ _ _).any
    | with_reducible exact (meek_newRow _ _).any
    | with_reducible exact (meek_newVar _ _).any
    | with_reducible exact (meek_elemOf _).any
    | with_reducible exact (meek_part _ _ _).any
    | with_reducible exact (meek_asIntOf _).any
    | with_reducible exact (meek_asInt _).any
    | with_reducible exact (meek_asBool _).any
    | with_reducible exact (meek_asString _).any
    | with_reducible exact (meek_asAgg _).any
    | with_reducible exact (meek_asAddr _).any
    | with_reducible exact (meek_askRoom _).any
    | with_reducible exact (meek_behind _).any
    | with_reducible exact (meek_asNumber _ _).any
    | with_reducible exact (meek_noView _).any
    | with_reducible exact (meek_byteOf _).any
    | with_reducible exact (meek_fieldPlace _ _).any
    | with_reducible exact (Meek.viewAt _).any
    | with_reducible exact (Meek.numberAt _).any
    | with_reducible exact (Meek.program).any
    | with_reducible refine Meek.bind (N := fun _ => True) ?_ fun _ _ => ?_
    | with_reducible refine Meek.ite (fun _ => ?_) (fun _ => ?_)
    | split
    | dsimp only
end
end Go.Proofs.YtlanlkpamnoekaaDoor.Lk
namespace Go.Proofs.YtlanlkpamnoekaaDoor.Lk
open Go
section
variable {P : Program} {q : Prop} {Z : Nat → Prop} {C : Code → Prop} {α β σ : Type}

/-! ### loops of the library -/
theorem meek_forInList {M : σ → Prop} (f : α → σ → Sem (ForInStep σ)) : ∀ (l : List α) (b : σ), (∀ a ∈ l, ∀ b, M b → Meek P q Z C (fun r => M r.value) (f a b)) → M b → Meek P q Z C M (forIn l b f)
  | [], b, _, hb => by rw [List.forIn_nil]; exact Meek.pure hb
  | a :: l, b, h, hb => by
    rw [List.forIn_cons]
    refine Meek.bind (h a (by simp) b hb) fun r hr => ?_
    cases r with
    | done c => exact Meek.pure hr
    | yield c => exact meek_forInList f l c (fun a ha => h a (by simp [ha])) hr
theorem meek_forInArray {M : σ → Prop} (f : α → σ → Sem (ForInStep σ)) (l : Array α) (b : σ) (h : ∀ a ∈ l.toList, ∀ b, M b → Meek P q Z C (fun r => M r.value) (f a b)) (hb : M b) : Meek P q Z C M (forIn l b f) := by
  rw [← Array.forIn_toList]; exact meek_forInList f _ _ h hb
theorem meek_forInRange {M : σ → Prop} (f : Nat → σ → Sem (ForInStep σ)) (h : ∀ a b, M b → Meek P q Z C (fun r => M r.value) (f a b)) (r : Std.Legacy.Range) (b : σ) (hb : M b) : Meek P q Z C M (forIn r b f) := by
  rw [Std.Legacy.Range.forIn_eq_forIn_range']; exact meek_forInList f _ _ (fun a _ => h a) hb
theorem meek_mapMList (f : α → Sem β) (h : ∀ a, Meek P q Z C (fun _ => True) (f a)) : ∀ l : List α, Meek P q Z C (fun _ => True) (l.mapM f)
  | [] => by rw [List.mapM_nil]; exact Meek.pure trivial
  | a :: l => by
    rw [List.mapM_cons]
    exact Meek.bind (h a) fun _ _ => Meek.bind (meek_mapMList f h l) fun _ _ => Meek.pure trivial
theorem meek_mapMArray (f : α → Sem β) (h : ∀ a, Meek P q Z C (fun _ => True) (f a)) (l : Array α) : Meek P q Z C (fun _ => True) (l.mapM f) := by
  rw [Array.mapM_eq_mapM_toList, map_eq_pure_bind]
  exact Meek.bind (meek_mapMList f h _) fun _ _ => Meek.pure trivial
theorem meek_foldlM (f : σ → α → Sem σ) (h : ∀ b a, Meek P q Z C (fun _ => True) (f b a)) : ∀ (l : List α) (b : σ), Meek P q Z C (fun _ => True) (l.foldlM f b)
  | [], b => by rw [List.foldlM_nil]; exact Meek.pure trivial
  | a :: l, b => by
    rw [List.foldlM_cons]
    exact Meek.bind (h b a) fun c _ => meek_foldlM f h l c

/-! ### instructions -/
theorem meek_alloc (t) : Meek P q Z C (fun _ => True) (Instr.alloc t true (.tuple #[])) := by
  unfold Instr.alloc
  repeat' first
    | with_reducible exact Meek.pure trivial
    | with_reducible exact Meek.stuck
    | with_reducible exact Meek.goPanic
    | with_reducible exact Meek.unsup (fun g h => by cases h)
    | with_reducible exact Meek.runtimePanic _
    | with_reducible exact Meek.boundsPanic _ _ _ _
    | with_reducible exact Meek.noRoom
    | with_reducible exact (Meek.choose _).any
    | with_reducible exact (Meek.load _ _).any
    | with_reducible exact (Meek.store _ _ _).any
    | with_reducible exact (meek_typeInfo _).any
    | with_reducible exact (meek_underlying _).any
    | with_reducible exact (meek_typeStr _).any
    | with_reducible exact (meek_zeroValue _).any
    | with_reducible exact (meek_sizeOf _).any
    | with_reducible exact (meek_isAgg _).any
    | with_reducible exact (meek_loadCells _ _).any
    | with_reducible exact (meek_storeCells _ _ _).any
    | with_reducible exact (meek_loadVar _ _).any
    | with_reducible exact (meek_storeVar _ _ _).any
    | with_reducible exact (meek_newRow _ _).any
    | with_reducible exact (meek_newVar _ _).any
    | with_reducible exact (meek_elemOf _).any
    | with_reducible exact (meek_part _ _ _).any
    | with_reducible exact (meek_asIntOf _).any
    | with_reducible exact (meek_asInt _).any
    | with_reducible exact (meek_asBool _).any
    | with_reducible exact (meek_asString _).any
    | with_reducible exact (meek_asAgg _).any
    | with_reducible exact (meek_asAddr _).any
    | with_reducible exact (meek_askRoom _).any
    | with_reducible exact (meek_behind _).any
    | with_reducible exact (meek_asNumber _ _).any
    | with_reducible exact (meek_noView _).any
    | with_reducible exact (meek_byteOf _).any
    | with_reducible exact (meek_fieldPlace _ _).any
    | with_reducible exact (Meek.viewAt _).any
    | with_reducible exact (Meek.numberAt _).any
    | with_reducible exact (Meek.program).any
    | with_reducible refine Meek.bind (N := fun _ => True) ?_ fun _ _ => ?_
    | with_reducible refine Meek.ite (fun _ => ?_) (fun _ => ?_)
    | split
    | dsimp only
theorem meek_box (t v) : Meek P q Z C (fun _ => True) (Instr.box t v) := by
  unfold Instr.box
  repeat' first
    | with_reducible exact Meek.pure trivial
    | with_reducible exact Meek.stuck
    | with_reducible exact Meek.goPanic
    | with_reducible exact Meek.unsup (fun g h => by cases h)
    | with_reducible exact Meek.runtimePanic _
    | with_reducible exact Meek.boundsPanic _ _ _ _
    | with_reducible exact Meek.noRoom
    | with_reducible exact (Meek.choose _).any
    | with_reducible exact (Meek.load _ _).any
    | with_reducible exact (Meek.store _ _ _).any
    | with_reducible exact (meek_typeInfo _).any
    | with_reducible exact (meek_underlying _).any
    | with_reducible exact (meek_typeStr _).any
    | with_reducible exact (meek_zeroValue _).any
    | with_reducible exact (meek_sizeOf _).any
    | with_reducible exact (meek_isAgg _).any
    | with_reducible exact (meek_loadCells _ _).any
    | with_reducible exact (meek_storeCells _ _ _).any
    | with_reducible exact (meek_loadVar _ _).any
    | with_reducible exact (meek_storeVar _ _ _).any
    | with_reducible exact (meek_newRow _ _).any
    | with_reducible exact (meek_newVar _ _).any
    | with_reducible exact (meek_elemOf _).any
    | with_reducible exact (meek_part _ _ _).any
    | with_reducible exact (meek_asIntOf _).any
    | with_reducible exact (meek_asInt _).any
    | with_reducible exact (meek_asBool _).any
    | with_reducible exact (meek_asString _).any
    | with_reducible exact (meek_asAgg _).any
    | with_reducible exact (meek_asAddr _).any
    | with_reducible exact (meek_askRoom _).any
    | with_reducible exact (meek_behind _).any
    | with_reducible exact (meek_asNumber _ _).any
    | with_reducible exact (meek_noView _).any
    | with_reducible exact (meek_byteOf _).any
    | with_reducible exact (meek_fieldPlace _ _).any
    | with_reducible exact (Meek.viewAt _).any
    | with_reducible exact (Meek.numberAt _).any
    | with_reducible exact (Meek.program).any
    | with_reducible refine Meek.bind (N := fun _ => True) ?_ fun _ _ => ?_
    | with_reducible refine Meek.ite (fun _ => ?_) (fun _ => ?_)
    | split
    | dsimp only
theorem meek_build (t ps) : Meek P q Z C (fun _ => True) (Instr.build t ps) := by
  unfold Instr.build
  refine Meek.bind (meek_zeroValue _) fun z _ => Meek.bind (meek_underlying _) fun d _ => ?_
  split
  · refine Meek.bind (meek_mapMArray _ (fun f => ?_) _) fun pl _ => ?_
    · repeat' first
        | with_reducible exact Meek.pure trivial
        | with_reducible exact Meek.stuck
        | with_reducible exact Meek.goPanic
        | with_reducible exact Meek.unsup (fun g h => by cases h)
        | with_reducible exact Meek.runtimePanic _
        | with_reducible exact Meek.boundsPanic _ _ _ _
        | with_reducible exact Meek.noRoom
        | with_reducible exact (Meek.choose _).any
        | with_reducible exact (Meek.load _ _).any
        | with_reducible exact (Meek.store _ _ _).any
        | with_reducible exact (meek_typeInfo _).any
        | with_reducible exact (meek_underlying _).any
        | with_reducible exact (meek_typeStr _).any
        | with_reducible exact (meek_zeroValue _).any
        | with_reducible exact (meek_sizeOf _).any
        | with_reducible exact (meek_isAgg _).any
        | with_reducible exact (meek_loadCells _ _).any
        | with_reducible exact (meek_storeCells _ _ _).any
        | with_reducible exact (meek_loadVar _ _).any
        | with_reducible exact (meek_storeVar _ _ _).any
        | with_reducible exact (meek_newRow _ _).any
        | with_reducible exact (meek_newVar _ _).any
        | with_reducible exact (meek_elemOf _).any
        | with_reducible exact (meek_part _ _ _).any
        | with_reducible exact (meek_asIntOf _).any
        | with_reducible exact (meek_asInt _).any
        | with_reducible exact (meek_asBool _).any
        | with_reducible exact (meek_asString _).any
        | with_reducible exact (meek_asAgg _).any
        | with_reducible exact (meek_asAddr _).any
        | with_reducible exact (meek_askRoom _).any
        | with_reducible exact (meek_behind _).any
        | with_reducible exact (meek_asNumber _ _).any
        | with_reducible exact (meek_noView _).any
        | with_reducible exact (meek_byteOf _).any
        | with_reducible exact (meek_fieldPlace _ _).any
        | with_reducible exact (Meek.viewAt _).any
        | with_reducible exact (Meek.numberAt _).any
        | with_reducible exact (Meek.program).any
        | with_reducible refine Meek.bind (N := fun _ => True) ?_ fun _ _ => ?_
        | with_reducible refine Meek.ite (fun _ => ?_) (fun _ => ?_)
        | split
        | dsimp only
    · repeat' first
        | with_reducible exact Meek.pure trivial
        | with_reducible exact Meek.stuck
        | with_reducible exact Meek.goPanic
        | with_reducible exact Meek.unsup (fun g h => by cases h)
        | with_reducible exact Meek.runtimePanic _
        | with_reducible exact Meek.boundsPanic _ _ _ _
        | with_reducible exact Meek.noRoom
        | with_reducible exact (Meek.choose _).any
        | with_reducible exact (Meek.load _ _).any
        | with_reducible exact (Meek.store _ _ _).any
        | with_reducible exact (meek_typeInfo _).any
        | with_reducible exact (meek_underlying _).any
        | with_reducible exact (meek_typeStr _).any
        | with_reducible exact (meek_zeroValue _).any
        | with_reducible exact (meek_sizeOf _).any
        | with_reducible exact (meek_isAgg _).any
        | with_reducible exact (meek_loadCells _ _).any
        | with_reducible exact (meek_storeCells _ _ _).any
        | with_reducible exact (meek_loadVar _ _).any
        | with_reducible exact (meek_storeVar _ _ _).any
        | with_reducible exact (meek_newRow _ _).any
        | with_reducible exact (meek_newVar _ _).any
        | with_reducible exact (meek_elemOf _).any
        | with_reducible exact (meek_part _ _ _).any
        | with_reducible exact (meek_asIntOf _).any
        | with_reducible exact (meek_asInt _).any
        | with_reducible exact (meek_asBool _).any
        | with_reducible exact (meek_asString _).any
        | with_reducible exact (meek_asAgg _).any
        | with_reducible exact (meek_asAddr _).any
        | with_reducible exact (meek_askRoom _).any
        | with_reducible exact (meek_behind _).any
        | with_reducible exact (meek_asNumber _ _).any
        | with_reducible exact (meek_noView _).any
        | with_reducible exact (meek_byteOf _).any
        | with_reducible exact (meek_fieldPlace _ _).any
        | with_reducible exact (Meek.viewAt _).any
        | with_reducible exact (Meek.numberAt _).any
        | with_reducible exact (Meek.program).any
        | with_reducible refine Meek.bind (N := fun _ => True) ?_ fun _ _ => ?_
        | with_reducible refine Meek.ite (fun _ => ?_) (fun _ => ?_)
        | split
        | dsimp only
  · repeat' first
      | with_reducible exact Meek.pure trivial
      | with_reducible exact Meek.stuck
      | with_reducible exact Meek.goPanic
      | with_reducible exact Meek.unsup (fun g h => by cases h)
      | with_reducible exact Meek.runtimePanic _
      | with_reducible exact Meek.boundsPanic _ _ _ _
      | with_reducible exact Meek.noRoom
      | with_reducible exact (Meek.choose _).any
      | with_reducible exact (Meek.load _ _).any
      | with_reducible exact (Meek.store _ _ _).any
      | with_reducible exact (meek_typeInfo _).any
      | with_reducible exact (meek_underlying _).any
      | with_reducible exact (meek_typeStr _).any
      | with_reducible exact (meek_zeroValue _).any
      | with_reducible exact (meek_sizeOf _).any
      | with_reducible exact (meek_isAgg _).any
      | with_reducible exact (meek_loadCells _ _).any
      | with_reducible exact (meek_storeCells _ _ _).any
      | with_reducible exact (meek_loadVar _ _).any
      | with_reducible exact (meek_storeVar _ _ _).any
      | with_reducible exact (meek_newRow _ _).any
      | with_reducible exact (meek_newVar _ _).any
      | with_reducible exact (meek_elemOf _).any
      | with_reducible exact (meek_part _ _ _).any
      | with_reducible exact (meek_asIntOf _).any
      | with_reducible exact (meek_asInt _).any
      | with_reducible exact (meek_asBool _).any
      | with_reducible exact (meek_asString _).any
      | with_reducible exact (meek_asAgg _).any
      | with_reducible exact (meek_asAddr _).any
      | with_reducible exact (meek_askRoom _).any
      | with_reducible exact (meek_behind _).any
      | with_reducible exact (meek_asNumber _ _).any
      | with_reducible exact (meek_noView _).any
      | with_reducible exact (meek_byteOf _).any
      | with_reducible exact (meek_fieldPlace _ _).any
      | with_reducible exact (Meek.viewAt _).any
      | with_reducible exact (Meek.numberAt _).any
      | with_reducible exact (Meek.program).any
      | with_reducible refine Meek.bind (N := fun _ => True) ?_ fun _ _ => ?_
      | with_reducible refine Meek.ite (fun _ => ?_) (fun _ => ?_)
      | split
      | dsimp only
  · exact Meek.stuck
theorem meek_buildSlice (t n ps) : Meek P q Z C (fun _ => True) (Instr.buildSlice t n ps) := by
  unfold Instr.buildSlice
  repeat' first
    | with_reducible exact Meek.pure trivial
    | with_reducible exact Meek.stuck
    | with_reducible exact Meek.goPanic
    | with_reducible exact Meek.unsup (fun g h => by cases h)
    | with_reducible exact Meek.runtimePanic _
    | with_reducible exact Meek.boundsPanic _ _ _ _
    | with_reducible exact Meek.noRoom
    | with_reducible exact (Meek.choose _).any
    | with_reducible exact (Meek.load _ _).any
    | with_reducible exact (Meek.store _ _ _).any
    | with_reducible exact (meek_typeInfo _).any
    | with_reducible exact (meek_underlying _).any
    | with_reducible exact (meek_typeStr _).any
    | with_reducible exact (meek_zeroValue _).any
    | with_reducible exact (meek_sizeOf _).any
    | with_reducible exact (meek_isAgg _).any
    | with_reducible exact (meek_loadCells _ _).any
    | with_reducible exact (meek_storeCells _ _ _).any
    | with_reducible exact (meek_loadVar _ _).any
    | with_reducible exact (meek_storeVar _ _ _).any
    | with_reducible exact (meek_newRow _ _).any
    | with_reducible exact (meek_newVar _ _).any
    | with_reducible exact (meek_elemOf _).any
    | with_reducible exact (meek_part _ _ _).any
    | with_reducible exact (meek_asIntOf _).any
    | with_reducible exact (meek_asInt _).any
    | with_reducible exact (meek_asBool _).any
    | with_reducible exact (meek_asString _).any
    | with_reducible exact (meek_asAgg _).any
    | with_reducible exact (meek_asAddr _).any
    | with_reducible exact (meek_askRoom _).any
    | with_reducible exact (meek_behind _).any
    | with_reducible exact (meek_asNumber _ _).any
    | with_reducible exact (meek_noView _).any
    | with_reducible exact (meek_byteOf _).any
    | with_reducible exact (meek_fieldPlace _ _).any
    | with_reducible exact (Meek.viewAt _).any
    | with_reducible exact (Meek.numberAt _).any
    | with_reducible exact (Meek.program).any
    | with_reducible refine Meek.bind (N := fun _ => True) ?_ fun _ _ => ?_
    | with_reducible refine Meek.ite (fun _ => ?_) (fun _ => ?_)
    | split
    | dsimp only
theorem meek_sureAddr (v) : Meek P q Z C (fun _ => True) (Instr.sureAddr v) := by
  unfold Instr.sureAddr
  repeat' first
    | with_reducible exact Meek.pure trivial
    | with_reducible exact Meek.stuck
    | with_reducible exact Meek.goPanic
    | with_reducible exact Meek.unsup (fun g h => by cases h)
    | with_reducible exact Meek.runtimePanic _
    | with_reducible exact Meek.boundsPanic _ _ _ _
    | with_reducible exact Meek.noRoom
    | with_reducible exact (Meek.choose _).any
    | with_reducible exact (Meek.load _ _).any
    | with_reducible exact (Meek.store _ _ _).any
    | with_reducible exact (meek_typeInfo _).any
    | with_reducible exact (meek_underlying _).any
    | with_reducible exact (meek_typeStr _).any
    | with_reducible exact (meek_zeroValue _).any
    | with_reducible exact (meek_sizeOf _).any
    | with_reducible exact (meek_isAgg _).any
    | with_reducible exact (meek_loadCells _ _).any
    | with_reducible exact (meek_storeCells _ _ _).any
    | with_reducible exact (meek_loadVar _ _).any
    | with_reducible exact (meek_storeVar _ _ _).any
    | with_reducible exact (meek_newRow _ _).any
    | with_reducible exact (meek_newVar _ _).any
    | with_reducible exact (meek_elemOf _).any
    | with_reducible exact (meek_part _ _ _).any
    | with_reducible exact (meek_asIntOf _).any
    | with_reducible exact (meek_asInt _).any
    | with_reducible exact (meek_asBool _).any
    | with_reducible exact (meek_asString _).any
    | with_reducible exact (meek_asAgg _).any
    | with_reducible exact (meek_asAddr _).any
    | with_reducible exact (meek_askRoom _).any
    | with_reducible exact (meek_behind _).any
    | with_reducible exact (meek_asNumber _ _).any
    | with_reducible exact (meek_noView _).any
    | with_reducible exact (meek_byteOf _).any
    | with_reducible exact (meek_fieldPlace _ _).any
    | with_reducible exact (Meek.viewAt _).any
    | with_reducible exact (Meek.numberAt _).any
    | with_reducible exact (Meek.program).any
    | with_reducible refine Meek.bind (N := fun _ => True) ?_ fun _ _ => ?_
    | with_reducible refine Meek.ite (fun _ => ?_) (fun _ => ?_)
    | split
    | dsimp only
theorem meek_loadAt (t v) : Meek P q Z C (fun _ => True) (Instr.loadAt t v) := by
  unfold Instr.loadAt
  repeat' first
    | with_reducible exact Meek.pure trivial
    | with_reducible exact Meek.stuck
    | with_reducible exact Meek.goPanic
    | with_reducible exact Meek.unsup (fun g h => by cases h)
    | with_reducible exact Meek.runtimePanic _
    | with_reducible exact Meek.boundsPanic _ _ _ _
    | with_reducible exact (meek_sureAddr _).any
    | with_reducible exact Meek.noRoom
    | with_reducible exact (Meek.choose _).any
    | with_reducible exact (Meek.load _ _).any
    | with_reducible exact (Meek.store _ _ _).any
    | with_reducible exact (meek_typeInfo _).any
    | with_reducible exact (meek_underlying _).any
    | with_reducible exact (meek_typeStr _).any
    | with_reducible exact (meek_zeroValue _).any
    | with_reducible exact (meek_sizeOf _).any
    | with_reducible exact (meek_isAgg _).any
    | with_reducible exact (meek_loadCells _ _).any
    | with_reducible exact (meek_storeCells _ _ _).any
    | with_reducible exact (meek_loadVar _ _).any
    | with_reducible exact (meek_storeVar _ _ _).any
    | with_reducible exact (meek_newRow _ _).any
    | with_reducible exact (meek_newVar _ _).any
    | with_reducible exact (meek_elemOf _).any
    | with_reducible exact (meek_part _ _ _).any
    | with_reducible exact (meek_asIntOf _).any
    | with_reducible exact (meek_asInt _).any
    | with_reducible exact (meek_asBool _).any
    | with_reducible exact (meek_asString _).any
    | with_reducible exact (meek_asAgg _).any
    | with_reducible exact (meek_asAddr _).any
    | with_reducible exact (meek_askRoom _).any
    | with_reducible exact (meek_behind _).any
    | with_reducible exact (meek_asNumber _ _).any
    | with_reducible exact (meek_noView _).any
    | with_reducible exact (meek_byteOf _).any
    | with_reducible exact (meek_fieldPlace _ _).any
    | with_reducible exact (Meek.viewAt _).any
    | with_reducible exact (Meek.numberAt _).any
    | with_reducible exact (Meek.program).any
    | with_reducible refine Meek.bind (N := fun _ => True) ?_ fun _ _ => ?_
    | with_reducible refine Meek.ite (fun _ => ?_) (fun _ => ?_)
    | split
    | dsimp only
theorem meek_storeAt (t v x) : Meek P q Z C (fun _ => True) (Instr.storeAt t v x) := by
  unfold Instr.storeAt
  repeat' first
    | with_reducible exact Meek.pure trivial
    | with_reducible exact Meek.stuck
    | with_reducible exact Meek.goPanic
    | with_reducible exact Meek.unsup (fun g h => by cases h)
    | with_reducible exact Meek.runtimePanic _
    | with_reducible exact Meek.boundsPanic _ _ _ _
    | with_reducible exact (meek_sureAddr _).any
    | with_reducible exact Meek.noRoom
    | with_reducible exact (Meek.choose _).any
    | with_reducible exact (Meek.load _ _).any
    | with_reducible exact (Meek.store _ _ _).any
    | with_reducible exact (meek_typeInfo _).any
    | with_reducible exact (meek_underlying _).any
    | with_reducible exact (meek_typeStr _).any
    | with_reducible exact (meek_zeroValue _).any
    | with_reducible exact (meek_sizeOf _).any
    | with_reducible exact (meek_isAgg _).any
    | with_reducible exact (meek_loadCells _ _).any
    | with_reducible exact (meek_storeCells _ _ _).any
    | with_reducible exact (meek_loadVar _ _).any
    | with_reducible exact (meek_storeVar _ _ _).any
    | with_reducible exact (meek_newRow _ _).any
    | with_reducible exact (meek_newVar _ _).any
    | with_reducible exact (meek_elemOf _).any
    | with_reducible exact (meek_part _ _ _).any
    | with_reducible exact (meek_asIntOf _).any
    | with_reducible exact (meek_asInt _).any
    | with_reducible exact (meek_asBool _).any
    | with_reducible exact (meek_asString _).any
    | with_reducible exact (meek_asAgg _).any
    | with_reducible exact (meek_asAddr _).any
    | with_reducible exact (meek_askRoom _).any
    | with_reducible exact (meek_behind _).any
    | with_reducible exact (meek_asNumber _ _).any
    | with_reducible exact (meek_noView _).any
    | with_reducible exact (meek_byteOf _).any
    | with_reducible exact (meek_fieldPlace _ _).any
    | with_reducible exact (Meek.viewAt _).any
    | with_reducible exact (Meek.numberAt _).any
    | with_reducible exact (Meek.program).any
    | with_reducible refine Meek.bind (N := fun _ => True) ?_ fun _ _ => ?_
    | with_reducible refine Meek.ite (fun _ => ?_) (fun _ => ?_)
    | split
    | dsimp only
theorem meek_fieldAt (t v f) : Meek P q Z C (fun _ => True) (Instr.fieldAt t v f) := by
  unfold Instr.fieldAt
  repeat' first
    | with_reducible exact Meek.pure trivial
    | with_reducible exact Meek.stuck
    | with_reducible exact Meek.goPanic
    | with_reducible exact Meek.unsup (fun g h => by cases h)
    | with_reducible exact Meek.runtimePanic _
    | with_reducible exact Meek.boundsPanic _ _ _ _
    | with_reducible exact (meek_sureAddr _).any
    | with_reducible exact Meek.noRoom
    | with_reducible exact (Meek.choose _).any
    | with_reducible exact (Meek.load _ _).any
    | with_reducible exact (Meek.store _ _ _).any
    | with_reducible exact (meek_typeInfo _).any
    | with_reducible exact (meek_underlying _).any
    | with_reducible exact (meek_typeStr _).any
    | with_reducible exact (meek_zeroValue _).any
    | with_reducible exact (meek_sizeOf _).any
    | with_reducible exact (meek_isAgg _).any
    | with_reducible exact (meek_loadCells _ _).any
    | with_reducible exact (meek_storeCells _ _ _).any
    | with_reducible exact (meek_loadVar _ _).any
    | with_reducible exact (meek_storeVar _ _ _).any
    | with_reducible exact (meek_newRow _ _).any
    | with_reducible exact (meek_newVar _ _).any
    | with_reducible exact (meek_elemOf _).any
    | with_reducible exact (meek_part _ _ _).any
    | with_reducible exact (meek_asIntOf _).any
    | with_reducible exact (meek_asInt _).any
    | with_reducible exact (meek_asBool _).any
    | with_reducible exact (meek_asString _).any
    | with_reducible exact (meek_asAgg _).any
    | with_reducible exact (meek_asAddr _).any
    | with_reducible exact (meek_askRoom _).any
    | with_reducible exact (meek_behind _).any
    | with_reducible exact (meek_asNumber _ _).any
    | with_reducible exact (meek_noView _).any
    | with_reducible exact (meek_byteOf _).any
    | with_reducible exact (meek_fieldPlace _ _).any
    | with_reducible exact (Meek.viewAt _).any
    | with_reducible exact (Meek.numberAt _).any
    | with_reducible exact (Meek.program).any
    | with_reducible refine Meek.bind (N := fun _ => True) ?_ fun _ _ => ?_
    | with_reducible refine Meek.ite (fun _ => ?_) (fun _ => ?_)
    | split
    | dsimp only
theorem meek_indexAt (t v i) : Meek P q Z C (fun _ => True) (Instr.indexAt t v i) := by
  unfold Instr.indexAt
  repeat' first
    | with_reducible exact Meek.pure trivial
    | with_reducible exact Meek.stuck
    | with_reducible exact Meek.goPanic
    | with_reducible exact Meek.unsup (fun g h => by cases h)
    | with_reducible exact Meek.runtimePanic _
    | with_reducible exact Meek.boundsPanic _ _ _ _
    | with_reducible exact (meek_sureAddr _).any
    | with_reducible exact Meek.noRoom
    | with_reducible exact (Meek.choose _).any
    | with_reducible exact (Meek.load _ _).any
    | with_reducible exact (Meek.store _ _ _).any
    | with_reducible exact (meek_typeInfo _).any
    | with_reducible exact (meek_underlying _).any
    | with_reducible exact (meek_typeStr _).any
    | with_reducible exact (meek_zeroValue _).any
    | with_reducible exact (meek_sizeOf _).any
    | with_reducible exact (meek_isAgg _).any
    | with_reducible exact (meek_loadCells _ _).any
    | with_reducible exact (meek_storeCells _ _ _).any
    | with_reducible exact (meek_loadVar _ _).any
    | with_reducible exact (meek_storeVar _ _ _).any
    | with_reducible exact (meek_newRow _ _).any
    | with_reducible exact (meek_newVar _ _).any
    | with_reducible exact (meek_elemOf _).any
    | with_reducible exact (meek_part _ _ _).any
    | with_reducible exact (meek_asIntOf _).any
    | with_reducible exact (meek_asInt _).any
    | with_reducible exact (meek_asBool _).any
    | with_reducible exact (meek_asString _).any
    | with_reducible exact (meek_asAgg _).any
    | with_reducible exact (meek_asAddr _).any
    | with_reducible exact (meek_askRoom _).any
    | with_reducible exact (meek_behind _).any
    | with_reducible exact (meek_asNumber _ _).any
    | with_reducible exact (meek_noView _).any
    | with_reducible exact (meek_byteOf _).any
    | with_reducible exact (meek_fieldPlace _ _).any
    | with_reducible exact (Meek.viewAt _).any
    | with_reducible exact (Meek.numberAt _).any
    | with_reducible exact (Meek.program).any
    | with_reducible refine Meek.bind (N := fun _ => True) ?_ fun _ _ => ?_
    | with_reducible refine Meek.ite (fun _ => ?_) (fun _ => ?_)
    | split
    | dsimp only
theorem meek_sliceBound (x y c) : Meek P q Z C (fun _ => True) (Instr.sliceBound x y c) := by
  unfold Instr.sliceBound
  repeat' first
    | with_reducible exact Meek.pure trivial
    | with_reducible exact Meek.stuck
    | with_reducible exact Meek.goPanic
    | with_reducible exact Meek.unsup (fun g h => by cases h)
    | with_reducible exact Meek.runtimePanic _
    | with_reducible exact Meek.boundsPanic _ _ _ _
    | with_reducible exact Meek.noRoom
    | with_reducible exact (Meek.choose _).any
    | with_reducible exact (Meek.load _ _).any
    | with_reducible exact (Meek.store _ _ _).any
    | with_reducible exact (meek_typeInfo _).any
    | with_reducible exact (meek_underlying _).any
    | with_reducible exact (meek_typeStr _).any
    | with_reducible exact (meek_zeroValue _).any
    | with_reducible exact (meek_sizeOf _).any
    | with_reducible exact (meek_isAgg _).any
    | with_reducible exact (meek_loadCells _ _).any
    | with_reducible exact (meek_storeCells _ _ _).any
    | with_reducible exact (meek_loadVar _ _).any
    | with_reducible exact (meek_storeVar _ _ _).any
    | with_reducible exact (meek_newRow _ _).any
    | with_reducible exact (meek_newVar _ _).any
    | with_reducible exact (meek_elemOf _).any
    | with_reducible exact (meek_part _ _ _).any
    | with_reducible exact (meek_asIntOf _).any
    | with_reducible exact (meek_asInt _).any
    | with_reducible exact (meek_asBool _).any
    | with_reducible exact (meek_asString _).any
    | with_reducible exact (meek_asAgg _).any
    | with_reducible exact (meek_asAddr _).any
    | with_reducible exact (meek_askRoom _).any
    | with_reducible exact (meek_behind _).any
    | with_reducible exact (meek_asNumber _ _).any
    | with_reducible exact (meek_noView _).any
    | with_reducible exact (meek_byteOf _).any
    | with_reducible exact (meek_fieldPlace _ _).any
    | with_reducible exact (Meek.viewAt _).any
    | with_reducible exact (Meek.numberAt _).any
    | with_reducible exact (Meek.program).any
    | with_reducible refine Meek.bind (N := fun _ => True) ?_ fun _ _ => ?_
    | with_reducible refine Meek.ite (fun _ => ?_) (fun _ => ?_)
    | split
    | dsimp only
theorem meek_sliceBounds (b l c x y z) : Meek P q Z C (fun _ => True) (Instr.sliceBounds b l c x y z) := by
  unfold Instr.sliceBounds
  repeat' first
    | with_reducible exact Meek.pure trivial
    | with_reducible exact Meek.stuck
    | with_reducible exact Meek.goPanic
    | with_reducible exact Meek.unsup (fun g h => by cases h)
    | with_reducible exact Meek.runtimePanic _
    | with_reducible exact Meek.boundsPanic _ _ _ _
    | with_reducible exact (meek_sliceBound _ _ _).any
    | with_reducible exact Meek.noRoom
    | with_reducible exact (Meek.choose _).any
    | with_reducible exact (Meek.load _ _).any
    | with_reducible exact (Meek.store _ _ _).any
    | with_reducible exact (meek_typeInfo _).any
    | with_reducible exact (meek_underlying _).any
    | with_reducible exact (meek_typeStr _).any
    | with_reducible exact (meek_zeroValue _).any
    | with_reducible exact (meek_sizeOf _).any
    | with_reducible exact (meek_isAgg _).any
    | with_reducible exact (meek_loadCells _ _).any
    | with_reducible exact (meek_storeCells _ _ _).any
    | with_reducible exact (meek_loadVar _ _).any
    | with_reducible exact (meek_storeVar _ _ _).any
    | with_reducible exact (meek_newRow _ _).any
    | with_reducible exact (meek_newVar _ _).any
    | with_reducible exact (meek_elemOf _).any
    | with_reducible exact (meek_part _ _ _).any
    | with_reducible exact (meek_asIntOf _).any
    | with_reducible exact (meek_asInt _).any
    | with_reducible exact (meek_asBool _).any
    | with_reducible exact (meek_asString _).any
    | with_reducible exact (meek_asAgg _).any
    | with_reducible exact (meek_asAddr _).any
    | with_reducible exact (meek_askRoom _).any
    | with_reducible exact (meek_behind _).any
    | with_reducible exact (meek_asNumber _ _).any
    | with_reducible exact (meek_noView _).any
    | with_reducible exact (meek_byteOf _).any
    | with_reducible exact (meek_fieldPlace _ _).any
    | with_reducible exact (Meek.viewAt _).any
    | with_reducible exact (Meek.numberAt _).any
    | with_reducible exact (Meek.program).any
    | with_reducible refine Meek.bind (N := fun _ => True) ?_ fun _ _ => ?_
    | with_reducible refine Meek.ite (fun _ => ?_) (fun _ => ?_)
    | split
    | dsimp only
theorem meek_slice (t x l h m) : Meek P q Z C (fun _ => True) (Instr.slice t x l h m) := by
  unfold Instr.slice
  repeat' first
    | with_reducible exact Meek.pure trivial
    | with_reducible exact Meek.stuck
    | with_reducible exact Meek.goPanic
    | with_reducible exact Meek.unsup (fun g h => by cases h)
    | with_reducible exact Meek.runtimePanic _
    | with_reducible exact Meek.boundsPanic _ _ _ _
    | with_reducible exact (meek_sliceBounds _ _ _ _ _ _).any
    | with_reducible exact Meek.noRoom
    | with_reducible exact (Meek.choose _).any
    | with_reducible exact (Meek.load _ _).any
    | with_reducible exact (Meek.store _ _ _).any
    | with_reducible exact (meek_typeInfo _).any
    | with_reducible exact (meek_underlying _).any
    | with_reducible exact (meek_typeStr _).any
    | with_reducible exact (meek_zeroValue _).any
    | with_reducible exact (meek_sizeOf _).any
    | with_reducible exact (meek_isAgg _).any
    | with_reducible exact (meek_loadCells _ _).any
    | with_reducible exact (meek_storeCells _ _ _).any
    | with_reducible exact (meek_loadVar _ _).any
    | with_reducible exact (meek_storeVar _ _ _).any
    | with_reducible exact (meek_newRow _ _).any
    | with_reducible exact (meek_newVar _ _).any
    | with_reducible exact (meek_elemOf _).any
    | with_reducible exact (meek_part _ _ _).any
    | with_reducible exact (meek_asIntOf _).any
    | with_reducible exact (meek_asInt _).any
    | with_reducible exact (meek_asBool _).any
    | with_reducible exact (meek_asString _).any
    | with_reducible exact (meek_asAgg _).any
    | with_reducible exact (meek_asAddr _).any
    | with_reducible exact (meek_askRoom _).any
    | with_reducible exact (meek_behind _).any
    | with_reducible exact (meek_asNumber _ _).any
    | with_reducible exact (meek_noView _).any
    | with_reducible exact (meek_byteOf _).any
    | with_reducible exact (meek_fieldPlace _ _).any
    | with_reducible exact (Meek.viewAt _).any
    | with_reducible exact (Meek.numberAt _).any
    | with_reducible exact (Meek.program).any
    | with_reducible refine Meek.bind (N := fun _ => True) ?_ fun _ _ => ?_
    | with_reducible refine Meek.ite (fun _ => ?_) (fun _ => ?_)
    | split
    | dsimp only
theorem meek_sliceAt (t x l h m) : Meek P q Z C (fun _ => True) (Instr.sliceAt t x l h m) := by
  unfold Instr.sliceAt
  repeat' first
    | with_reducible exact Meek.pure trivial
    | with_reducible exact Meek.stuck
    | with_reducible exact Meek.goPanic
    | with_reducible exact Meek.unsup (fun g h => by cases h)
    | with_reducible exact Meek.runtimePanic _
    | with_reducible exact Meek.boundsPanic _ _ _ _
    | with_reducible exact (meek_sureAddr _).any
    | with_reducible exact (meek_sliceBounds _ _ _ _ _ _).any
    | with_reducible exact (meek_slice _ _ _ _ _).any
    | with_reducible exact Meek.noRoom
    | with_reducible exact (Meek.choose _).any
    | with_reducible exact (Meek.load _ _).any
    | with_reducible exact (Meek.store _ _ _).any
    | with_reducible exact (meek_typeInfo _).any
    | with_reducible exact (meek_underlying _).any
    | with_reducible exact (meek_typeStr _).any
    | with_reducible exact (meek_zeroValue _).any
    | with_reducible exact (meek_sizeOf _).any
    | with_reducible exact (meek_isAgg _).any
    | with_reducible exact (meek_loadCells _ _).any
    | with_reducible exact (meek_storeCells _ _ _).any
    | with_reducible exact (meek_loadVar _ _).any
    | with_reducible exact (meek_storeVar _ _ _).any
    | with_reducible exact (meek_newRow _ _).any
    | with_reducible exact (meek_newVar _ _).any
    | with_reducible exact (meek_elemOf _).any
    | with_reducible exact (meek_part _ _ _).any
    | with_reducible exact (meek_asIntOf _).any
    | with_reducible exact (meek_asInt _).any
    | with_reducible exact (meek_asBool _).any
    | with_reducible exact (meek_asString _).any
    | with_reducible exact (meek_asAgg _).any
    | with_reducible exact (meek_asAddr _).any
    | with_reducible exact (meek_askRoom _).any
    | with_reducible exact (meek_behind _).any
    | with_reducible exact (meek_asNumber _ _).any
    | with_reducible exact (meek_noView _).any
    | with_reducible exact (meek_byteOf _).any
    | with_reducible exact (meek_fieldPlace _ _).any
    | with_reducible exact (Meek.viewAt _).any
    | with_reducible exact (Meek.numberAt _).any
    | with_reducible exact (Meek.program).any
    | with_reducible refine Meek.bind (N := fun _ => True) ?_ fun _ _ => ?_
    | with_reducible refine Meek.ite (fun _ => ?_) (fun _ => ?_)
    | split
    | dsimp only
theorem meek_field (t x f) : Meek P q Z C (fun _ => True) (Instr.field t x f) := by
  unfold Instr.field
  repeat' first
    | with_reducible exact Meek.pure trivial
    | with_reducible exact Meek.stuck
    | with_reducible exact Meek.goPanic
    | with_reducible exact Meek.unsup (fun g h => by cases h)
    | with_reducible exact Meek.runtimePanic _
    | with_reducible exact Meek.boundsPanic _ _ _ _
    | with_reducible exact Meek.noRoom
    | with_reducible exact (Meek.choose _).any
    | with_reducible exact (Meek.load _ _).any
    | with_reducible exact (Meek.store _ _ _).any
    | with_reducible exact (meek_typeInfo _).any
    | with_reducible exact (meek_underlying _).any
    | with_reducible exact (meek_typeStr _).any
    | with_reducible exact (meek_zeroValue _).any
    | with_reducible exact (meek_sizeOf _).any
    | with_reducible exact (meek_isAgg _).any
    | with_reducible exact (meek_loadCells _ _).any
    | with_reducible exact (meek_storeCells _ _ _).any
    | with_reducible exact (meek_loadVar _ _).any
    | with_reducible exact (meek_storeVar _ _ _).any
    | with_reducible exact (meek_newRow _ _).any
    | with_reducible exact (meek_newVar _ _).any
    | with_reducible exact (meek_elemOf _).any
    | with_reducible exact (meek_part _ _ _).any
    | with_reducible exact (meek_asIntOf _).any
    | with_reducible exact (meek_asInt _).any
    | with_reducible exact (meek_asBool _).any
    | with_reducible exact (meek_asString _).any
    | with_reducible exact (meek_asAgg _).any
    | with_reducible exact (meek_asAddr _).any
    | with_reducible exact (meek_askRoom _).any
    | with_reducible exact (meek_behind _).any
    | with_reducible exact (meek_asNumber _ _).any
    | with_reducible exact (meek_noView _).any
    | with_reducible exact (meek_byteOf _).any
    | with_reducible exact (meek_fieldPlace _ _).any
    | with_reducible exact (Meek.viewAt _).any
    | with_reducible exact (Meek.numberAt _).any
    | with_reducible exact (Meek.program).any
    | with_reducible refine Meek.bind (N := fun _ => True) ?_ fun _ _ => ?_
    | with_reducible refine Meek.ite (fun _ => ?_) (fun _ => ?_)
    | split
    | dsimp only
theorem meek_index (t x f) : Meek P q Z C (fun _ => True) (Instr.index t x f) := by
  unfold Instr.index
  repeat' first
    | with_reducible exact Meek.pure trivial
    | with_reducible exact Meek.stuck
    | with_reducible exact Meek.goPanic
    | with_reducible exact Meek.unsup (fun g h => by cases h)
    | with_reducible exact Meek.runtimePanic _
    | with_reducible exact Meek.boundsPanic _ _ _ _
    | with_reducible exact Meek.noRoom
    | with_reducible exact (Meek.choose _).any
    | with_reducible exact (Meek.load _ _).any
    | with_reducible exact (Meek.store _ _ _).any
    | with_reducible exact (meek_typeInfo _).any
    | with_reducible exact (meek_underlying _).any
    | with_reducible exact (meek_typeStr _).any
    | with_reducible exact (meek_zeroValue _).any
    | with_reducible exact (meek_sizeOf _).any
    | with_reducible exact (meek_isAgg _).any
    | with_reducible exact (meek_loadCells _ _).any
    | with_reducible exact (meek_storeCells _ _ _).any
    | with_reducible exact (meek_loadVar _ _).any
    | with_reducible exact (meek_storeVar _ _ _).any
    | with_reducible exact (meek_newRow _ _).any
    | with_reducible exact (meek_newVar _ _).any
    | with_reducible exact (meek_elemOf _).any
    | with_reducible exact (meek_part _ _ _).any
    | with_reducible exact (meek_asIntOf _).any
    | with_reducible exact (meek_asInt _).any
    | with_reducible exact (meek_asBool _).any
    | with_reducible exact (meek_asString _).any
    | with_reducible exact (meek_asAgg _).any
    | with_reducible exact (meek_asAddr _).any
    | with_reducible exact (meek_askRoom _).any
    | with_reducible exact (meek_behind _).any
    | with_reducible exact (meek_asNumber _ _).any
    | with_reducible exact (meek_noView _).any
    | with_reducible exact (meek_byteOf _).any
    | with_reducible exact (meek_fieldPlace _ _).any
    | with_reducible exact (Meek.viewAt _).any
    | with_reducible exact (Meek.numberAt _).any
    | with_reducible exact (Meek.program).any
    | with_reducible refine Meek.bind (N := fun _ => True) ?_ fun _ _ => ?_
    | with_reducible refine Meek.ite (fun _ => ?_) (fun _ => ?_)
    | split
    | dsimp only
theorem meek_extract (t f) : Meek P q Z C (fun _ => True) (Instr.extract t f) := by
  unfold Instr.extract
  repeat' first
    | with_reducible exact Meek.pure trivial
    | with_reducible exact Meek.stuck
    | with_reducible exact Meek.goPanic
    | with_reducible exact Meek.unsup (fun g h => by cases h)
    | with_reducible exact Meek.runtimePanic _
    | with_reducible exact Meek.boundsPanic _ _ _ _
    | with_reducible exact Meek.noRoom
    | with_reducible exact (Meek.choose _).any
    | with_reducible exact (Meek.load _ _).any
    | with_reducible exact (Meek.store _ _ _).any
    | with_reducible exact (meek_typeInfo _).any
    | with_reducible exact (meek_underlying _).any
    | with_reducible exact (meek_typeStr _).any
    | with_reducible exact (meek_zeroValue _).any
    | with_reducible exact (meek_sizeOf _).any
    | with_reducible exact (meek_isAgg _).any
    | with_reducible exact (meek_loadCells _ _).any
    | with_reducible exact (meek_storeCells _ _ _).any
    | with_reducible exact (meek_loadVar _ _).any
    | with_reducible exact (meek_storeVar _ _ _).any
    | with_reducible exact (meek_newRow _ _).any
    | with_reducible exact (meek_newVar _ _).any
    | with_reducible exact (meek_elemOf _).any
    | with_reducible exact (meek_part _ _ _).any
    | with_reducible exact (meek_asIntOf _).any
    | with_reducible exact (meek_asInt _).any
    | with_reducible exact (meek_asBool _).any
    | with_reducible exact (meek_asString _).any
    | with_reducible exact (meek_asAgg _).any
    | with_reducible exact (meek_asAddr _).any
    | with_reducible exact (meek_askRoom _).any
    | with_reducible exact (meek_behind _).any
    | with_reducible exact (meek_asNumber _ _).any
    | with_reducible exact (meek_noView _).any
    | with_reducible exact (meek_byteOf _).any
    | with_reducible exact (meek_fieldPlace _ _).any
    | with_reducible exact (Meek.viewAt _).any
    | with_reducible exact (Meek.numberAt _).any
    | with_reducible exact (Meek.program).any
    | with_reducible refine Meek.bind (N := fun _ => True) ?_ fun _ _ => ?_
    | with_reducible refine Meek.ite (fun _ => ?_) (fun _ => ?_)
    | split
    | dsimp only

/-! ### built-in functions -/
theorem meek_lenOf (x) : Meek P q Z C (fun _ => True) (Builtin.lenOf x) := by
  unfold Builtin.lenOf
  repeat' first
    | with_reducible exact Meek.pure trivial
    | with_reducible exact Meek.stuck
    | with_reducible exact Meek.goPanic
    | with_reducible exact Meek.unsup (fun g h => by cases h)
    | with_reducible exact Meek.runtimePanic _
    | with_reducible exact Meek.boundsPanic _ _ _ _
    | with_reducible exact Meek.noRoom
    | with_reducible exact (Meek.choose _).any
    | with_reducible exact (Meek.load _ _).any
    | with_reducible exact (Meek.store _ _ _).any
    | with_reducible exact (meek_typeInfo _).any
    | with_reducible exact (meek_underlying _).any
    | with_reducible exact (meek_typeStr _).any
    | with_reducible exact (meek_zeroValue _).any
    | with_reducible exact (meek_sizeOf _).any
    | with_reducible exact (meek_isAgg _).any
    | with_reducible exact (meek_loadCells _ _).any
    | with_reducible exact (meek_storeCells _ _ _).any
    | with_reducible exact (meek_loadVar _ _).any
    | with_reducible exact (meek_storeVar _ _ _).any
    | with_reducible exact (meek_newRow _ _).any
    | with_reducible exact (meek_newVar _ _).any
    | with_reducible exact (meek_elemOf _).any
    | with_reducible exact (meek_part _ _ _).any
    | with_reducible exact (meek_asIntOf _).any
    | with_reducible exact (meek_asInt _).any
    | with_reducible exact (meek_asBool _).any
    | with_reducible exact (meek_asString _).any
    | with_reducible exact (meek_asAgg _).any
    | with_reducible exact (meek_asAddr _).any
    | with_reducible exact (meek_askRoom _).any
    | with_reducible exact (meek_behind _).any
    | with_reducible exact (meek_asNumber _ _).any
    | with_reducible exact (meek_noView _).any
    | with_reducible exact (meek_byteOf _).any
    | with_reducible exact (meek_fieldPlace _ _).any
    | with_reducible exact (Meek.viewAt _).any
    | with_reducible exact (Meek.numberAt _).any
    | with_reducible exact (Meek.program).any
    | with_reducible refine Meek.bind (N := fun _ => True) ?_ fun _ _ => ?_
    | with_reducible refine Meek.ite (fun _ => ?_) (fun _ => ?_)
    | split
    | dsimp only
theorem meek_firstCells (s n x) : Meek P q Z C (fun _ => True) (Builtin.firstCells s n x) := by
  unfold Builtin.firstCells
  repeat' first
    | with_reducible exact Meek.pure trivial
    | with_reducible exact Meek.stuck
    | with_reducible exact Meek.goPanic
    | with_reducible exact Meek.unsup (fun g h => by cases h)
    | with_reducible exact Meek.runtimePanic _
    | with_reducible exact Meek.boundsPanic _ _ _ _
    | with_reducible exact Meek.noRoom
    | with_reducible exact (Meek.choose _).any
    | with_reducible exact (Meek.load _ _).any
    | with_reducible exact (Meek.store _ _ _).any
    | with_reducible exact (meek_typeInfo _).any
    | with_reducible exact (meek_underlying _).any
    | with_reducible exact (meek_typeStr _).any
    | with_reducible exact (meek_zeroValue _).any
    | with_reducible exact (meek_sizeOf _).any
    | with_reducible exact (meek_isAgg _).any
    | with_reducible exact (meek_loadCells _ _).any
    | with_reducible exact (meek_storeCells _ _ _).any
    | with_reducible exact (meek_loadVar _ _).any
    | with_reducible exact (meek_storeVar _ _ _).any
    | with_reducible exact (meek_newRow _ _).any
    | with_reducible exact (meek_newVar _ _).any
    | with_reducible exact (meek_elemOf _).any
    | with_reducible exact (meek_part _ _ _).any
    | with_reducible exact (meek_asIntOf _).any
    | with_reducible exact (meek_asInt _).any
    | with_reducible exact (meek_asBool _).any
    | with_reducible exact (meek_asString _).any
    | with_reducible exact (meek_asAgg _).any
    | with_reducible exact (meek_asAddr _).any
    | with_reducible exact (meek_askRoom _).any
    | with_reducible exact (meek_behind _).any
    | with_reducible exact (meek_asNumber _ _).any
    | with_reducible exact (meek_noView _).any
    | with_reducible exact (meek_byteOf _).any
    | with_reducible exact (meek_fieldPlace _ _).any
    | with_reducible exact (Meek.viewAt _).any
    | with_reducible exact (Meek.numberAt _).any
    | with_reducible exact (Meek.program).any
    | with_reducible refine Meek.bind (N := fun _ => True) ?_ fun _ _ => ?_
    | with_reducible refine Meek.ite (fun _ => ?_) (fun _ => ?_)
    | split
    | dsimp only
theorem shape_ok (r : Nat) (G : World) : (shape r).run P G = .ok (G.shape? r) G := rfl
/-- Whatever is asked without turning anything: what follows decides. -/
theorem dead_behind {s : Sem α} (hs : ∀ G : World, ∃ a, s.run P G = .ok a G) {f : α → Sem β} (hf : ∀ a, Dead P q Z C (f a)) : Dead P q Z C (s >>= f) := by
  intro G hG
  obtain ⟨a, ha⟩ := hs G
  obtain ⟨h, w, h1, h2⟩ := hf a G hG
  exact ⟨h, w, by rw [Sem.run_bind, ha]; exact h1, h2⟩
theorem holds_ok (a n) (G : World) : ∃ b, (Builtin.holdsCells a n).run P G = .ok b G := by
  unfold Builtin.holdsCells
  rw [Sem.run_bind, shape_ok]
  simp only [Result.andThen]
  split <;> exact ⟨_, rfl⟩
theorem bind_ok {s : Sem α} {f : α → Sem β} (hs : ∀ G : World, ∃ a, s.run P G = .ok a G) (hf : ∀ a (G : World), ∃ b, (f a).run P G = .ok b G) (G : World) : ∃ b, (s >>= f).run P G = .ok b G := by
  obtain ⟨a, ha⟩ := hs G
  rw [Sem.run_bind, ha]
  exact hf a G
theorem mayShare_ok (s l n b x) (G : World) : ∃ c, (Builtin.mayShare s l n b x).run P G = .ok c G := by
  unfold Builtin.mayShare
  dsimp only
  split
  · refine bind_ok (s := pure true) (fun G => ⟨_, rfl⟩) (fun c G => ?_) G
    split
    · exact ⟨_, rfl⟩
    · split
      · exact bind_ok (holds_ok _ _) (fun _ G => ⟨_, rfl⟩) G
      · exact ⟨_, rfl⟩
  · refine bind_ok (holds_ok _ _) (fun _ G => bind_ok (s := Go.frozen _) (fun G => ⟨_, rfl⟩) (fun _ G => bind_ok (s := pure _) (fun G => ⟨_, rfl⟩) (fun c G => ?_) G) G) G
    split
    · exact ⟨_, rfl⟩
    · split
      · exact bind_ok (holds_ok _ _) (fun _ G => ⟨_, rfl⟩) G
      · exact ⟨_, rfl⟩
set_option maxHeartbeats 4000000 in
theorem meek_append (a t args) : Meek P q Z C (fun _ => True) (Builtin.append_ a t args) := by
  unfold Builtin.append_
  repeat' first
    | with_reducible exact Meek.pure trivial
    | with_reducible exact Meek.stuck
    | with_reducible exact Meek.goPanic
    | with_reducible exact Meek.unsup (fun g h => by cases h)
    | with_reducible exact Meek.runtimePanic _
    | with_reducible exact Meek.boundsPanic _ _ _ _
    | with_reducible exact (meek_lenOf _).any
    | with_reducible exact (meek_firstCells _ _ _).any
    | with_reducible exact Meek.noRoom
    | with_reducible exact (Meek.choose _).any
    | with_reducible exact (Meek.load _ _).any
    | with_reducible exact (Meek.store _ _ _).any
    | with_reducible exact (meek_typeInfo _).any
    | with_reducible exact (meek_underlying _).any
    | with_reducible exact (meek_typeStr _).any
    | with_reducible exact (meek_zeroValue _).any
    | with_reducible exact (meek_sizeOf _).any
    | with_reducible exact (meek_isAgg _).any
    | with_reducible exact (meek_loadCells _ _).any
    | with_reducible exact (meek_storeCells _ _ _).any
    | with_reducible exact (meek_loadVar _ _).any
    | with_reducible exact (meek_storeVar _ _ _).any
    | with_reducible exact (meek_newRow _ _).any
    | with_reducible exact (meek_newVar _ _).any
    | with_reducible exact (meek_elemOf _).any
    | with_reducible exact (meek_part _ _ _).any
    | with_reducible exact (meek_asIntOf _).any
    | with_reducible exact (meek_asInt _).any
    | with_reducible exact (meek_asBool _).any
    | with_reducible exact (meek_asString _).any
    | with_reducible exact (meek_asAgg _).any
    | with_reducible exact (meek_asAddr _).any
    | with_reducible exact (meek_askRoom _).any
    | with_reducible exact (meek_behind _).any
    | with_reducible exact (meek_asNumber _ _).any
    | with_reducible exact (meek_noView _).any
    | with_reducible exact (meek_byteOf _).any
    | with_reducible exact (meek_fieldPlace _ _).any
    | with_reducible exact (Meek.viewAt _).any
    | with_reducible exact (Meek.numberAt _).any
    | with_reducible exact (Meek.program).any
    | with_reducible refine (dead_behind (mayShare_ok _ _ _ _ _) (fun b => ?_)).meek
    | with_reducible refine Dead.ite (fun _ => ?_) (fun _ => ?_)
    | with_reducible exact Dead.bind (Dead.unsupported (fun g h => by cases h))
    | with_reducible exact Dead.unsupported (fun g h => by cases h)
    | with_reducible refine Meek.bindDead Meek.noRoom fun _ _ => ?_
    | with_reducible refine Meek.bind (N := fun _ => True) ?_ fun _ _ => ?_
    | with_reducible refine Meek.ite (fun _ => ?_) (fun _ => ?_)
    | split
    | dsimp only
end
end Go.Proofs.YtlanlkpamnoekaaDoor.Lk
