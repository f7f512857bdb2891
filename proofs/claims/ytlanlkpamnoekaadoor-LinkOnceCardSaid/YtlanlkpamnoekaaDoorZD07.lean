/- Lone runs in company: a metatheorem on the model, and the sender beside link.All. Nothing that was there is turned. -/
import Derived.Test.YtlanlkpamnoekaaDoorZD06
set_option linter.unusedSimpArgs false
set_option linter.unusedVariables false
namespace Go.Proofs.YtlanlkpamnoekaaDoor.Lk
open Go
section
variable {P : Program} {q : Prop} {Z : Nat → Prop} {C : Code → Prop} {α β σ : Type}

theorem meek_min2 (x y) : Meek P q Z C (fun _ => True) (Builtin.min2 x y) := by
  unfold Builtin.min2
  repeat' first
    | with_reducible exact Meek.pure trivial
    | with_reducible exact Meek.stuck
    | with_reducible exact Meek.goPanic
    | with_reducible exact Meek.unsup (fun g h => by cases h)
    | with_reducible exact Meek.runtimePanic _
    | with_reducible exact Meek.boundsPanic _ _ _ _
    | with_reducible exact (meek_stringOp _ _ _).any
    | with_reducible exact Meek.noRoom
    | with_reducible exact (Meek.choose _).any
    | with_reducible exact (Meek.load _ _).any
    | with_reducible exact (Meek.store _ _ _).any
    | with_reducible exact (meek_typeInfo _).any
    | with_reducible exact (meek_underlying _).any
    | with_reducible exact (meek_typeStr _).any
    | with_reducible exact (meek_zeroValue _).any
    | with_reducible exact (meek_sizeOf _).any
    | with_reducible exact (meek_isAgg _).any
    | with_reducible exact (meek_loadCells _ _).any
    | with_reducible exact (meek_storeCells _ _ _).any
    | with_reducible exact (meek_loadVar _ _).any
    | with_reducible exact (meek_storeVar _ _ _).any
    | with_reducible exact (meek_newRow _ _).any
    | with_reducible exact (meek_newVar _ _).any
    | with_reducible exact (meek_elemOf _).any
    | with_reducible exact (meek_part _ _ _).any
    | with_reducible exact (meek_asIntOf _).any
    | with_reducible exact (meek_asInt _).any
    | with_reducible exact (meek_asBool _).any
    | with_reducible exact (meek_asString _).any
    | with_reducible exact (meek_asAgg _).any
    | with_reducible exact (meek_asAddr _).any
    | with_reducible exact (meek_askRoom _).any
    | with_reducible exact (meek_behind _).any
    | with_reducible exact (meek_asNumber _ _).any
    | with_reducible exact (meek_noView _).any
    | with_reducible exact (meek_byteOf _).any
    | with_reducible exact (meek_fieldPlace _ _).any
    | with_reducible exact (Meek.viewAt _).any
    | with_reducible exact (Meek.numberAt _).any
    | with_reducible exact (Meek.program).any
    | with_reducible refine Meek.bind (N := fun _ => True) ?_ fun _ _ => ?_
    | with_reducible refine Meek.ite (fun _ => ?_) (fun _ => ?_)
    | split
    | dsimp only
theorem meek_max2 (x y) : Meek P q Z C (fun _ => True) (Builtin.max2 x y) := by
  unfold Builtin.max2
  repeat' first
    | with_reducible exact Meek.pure trivial
    | with_reducible exact Meek.stuck
    | with_reducible exact Meek.goPanic
    | with_reducible exact Meek.unsup (fun g h => by cases h)
    | with_reducible exact Meek.runtimePanic _
    | with_reducible exact Meek.boundsPanic _ _ _ _
    | with_reducible exact (meek_stringOp _ _ _).any
    | with_reducible exact Meek.noRoom
    | with_reducible exact (Meek.choose _).any
    | with_reducible exact (Meek.load _ _).any
    | with_reducible exact (Meek.store _ _ _).any
    | with_reducible exact (meek_typeInfo _).any
    | with_reducible exact (meek_underlying _).any
    | with_reducible exact (meek_typeStr _).any
    | with_reducible exact (meek_zeroValue _).any
    | with_reducible exact (meek_sizeOf _).any
    | with_reducible exact (meek_isAgg _).any
    | with_reducible exact (meek_loadCells _ _).any
    | with_reducible exact (meek_storeCells _ _ _).any
    | with_reducible exact (meek_loadVar _ _).any
    | with_reducible exact (meek_storeVar _ _ _).any
    | with_reducible exact (meek_newRow _ _).any
    | with_reducible exact (meek_newVar _ _).any
    | with_reducible exact (meek_elemOf _).any
    | with_reducible exact (meek_part _ _ _).any
    | with_reducible exact (meek_asIntOf _).any
    | with_reducible exact (meek_asInt _).any
    | with_reducible exact (meek_asBool _).any
    | with_reducible exact (meek_asString _).any
    | with_reducible exact (meek_asAgg _).any
    | with_reducible exact (meek_asAddr _).any
    | with_reducible exact (meek_askRoom _).any
    | with_reducible exact (meek_behind _).any
    | with_reducible exact (meek_asNumber _ _).any
    | with_reducible exact (meek_noView _).any
    | with_reducible exact (meek_byteOf _).any
    | with_reducible exact (meek_fieldPlace _ _).any
    | with_reducible exact (Meek.viewAt _).any
    | with_reducible exact (Meek.numberAt _).any
    | with_reducible exact (Meek.program).any
    | with_reducible refine Meek.bind (N := fun _ => True) ?_ fun _ _ => ?_
    | with_reducible refine Meek.ite (fun _ => ?_) (fun _ => ?_)
    | split
    | dsimp only
theorem meek_min (a t l) : Meek P q Z C (fun _ => True) (Builtin.min_ a t l) := by
  unfold Builtin.min_
  split
  · exact Meek.stuck
  · exact meek_foldlM _ (fun b a => meek_min2 b a) _ _
theorem meek_max (a t l) : Meek P q Z C (fun _ => True) (Builtin.max_ a t l) := by
  unfold Builtin.max_
  split
  · exact Meek.stuck
  · exact meek_foldlM _ (fun b a => meek_max2 b a) _ _
theorem meek_copy (a t l) : Meek P q Z C (fun _ => True) (Builtin.copy_ a t l) := by
  unfold Builtin.copy_
  repeat' first
    | with_reducible exact Meek.pure trivial
    | with_reducible exact Meek.stuck
    | with_reducible exact Meek.goPanic
    | with_reducible exact Meek.unsup (fun g h => by cases h)
    | with_reducible exact Meek.runtimePanic _
    | with_reducible exact Meek.boundsPanic _ _ _ _
    | with_reducible exact (meek_lenOf _).any
    | with_reducible exact (meek_firstCells _ _ _).any
    | with_reducible exact Meek.noRoom
    | with_reducible exact (Meek.choose _).any
    | with_reducible exact (Meek.load _ _).any
    | with_reducible exact (Meek.store _ _ _).any
    | with_reducible exact (meek_typeInfo _).any
    | with_reducible exact (meek_underlying _).any
    | with_reducible exact (meek_typeStr _).any
    | with_reducible exact (meek_zeroValue _).any
    | with_reducible exact (meek_sizeOf _).any
    | with_reducible exact (meek_isAgg _).any
    | with_reducible exact (meek_loadCells _ _).any
    | with_reducible exact (meek_storeCells _ _ _).any
    | with_reducible exact (meek_loadVar _ _).any
    | with_reducible exact (meek_storeVar _ _ _).any
    | with_reducible exact (meek_newRow _ _).any
    | with_reducible exact (meek_newVar _ _).any
    | with_reducible exact (meek_elemOf _).any
    | with_reducible exact (meek_part _ _ _).any
    | with_reducible exact (meek_asIntOf _).any
    | with_reducible exact (meek_asInt _).any
    | with_reducible exact (meek_asBool _).any
    | with_reducible exact (meek_asString _).any
    | with_reducible exact (meek_asAgg _).any
    | with_reducible exact (meek_asAddr _).any
    | with_reducible exact (meek_askRoom _).any
    | with_reducible exact (meek_behind _).any
    | with_reducible exact (meek_asNumber _ _).any
    | with_reducible exact (meek_noView _).any
    | with_reducible exact (meek_byteOf _).any
    | with_reducible exact (meek_fieldPlace _ _).any
    | with_reducible exact (Meek.viewAt _).any
    | with_reducible exact (Meek.numberAt _).any
    | with_reducible exact (Meek.program).any
    | with_reducible refine Meek.bind (N := fun _ => True) ?_ fun _ _ => ?_
    | with_reducible refine Meek.ite (fun _ => ?_) (fun _ => ?_)
    | split
    | dsimp only

/-- Whatever record a length asks for: of a veiled one it comes to nothing. -/
theorem meek_len (a t l) : Meek P q Z C (fun _ => True) (Builtin.len_ a t l) := by
  unfold Builtin.len_
  split
  · refine Meek.bind (meek_underlying _) fun d _ => ?_
    split
    · exact Meek.pure trivial
    · exact Meek.pure trivial
    · repeat' first
        | with_reducible exact Meek.pure trivial
        | with_reducible exact Meek.stuck
        | with_reducible exact Meek.goPanic
        | with_reducible exact Meek.unsup (fun g h => by cases h)
        | with_reducible exact Meek.runtimePanic _
        | with_reducible exact Meek.boundsPanic _ _ _ _
        | with_reducible exact Meek.noRoom
        | with_reducible exact (Meek.choose _).any
        | with_reducible exact (Meek.load _ _).any
        | with_reducible exact (Meek.store _ _ _).any
        | with_reducible exact (meek_typeInfo _).any
        | with_reducible exact (meek_underlying _).any
        | with_reducible exact (meek_typeStr _).any
        | with_reducible exact (meek_zeroValue _).any
        | with_reducible exact (meek_sizeOf _).any
        | with_reducible exact (meek_isAgg _).any
        | with_reducible exact (meek_loadCells _ _).any
        | with_reducible exact (meek_storeCells _ _ _).any
        | with_reducible exact (meek_loadVar _ _).any
        | with_reducible exact (meek_storeVar _ _ _).any
        | with_reducible exact (meek_newRow _ _).any
        | with_reducible exact (meek_newVar _ _).any
        | with_reducible exact (meek_elemOf _).any
        | with_reducible exact (meek_part _ _ _).any
        | with_reducible exact (meek_asIntOf _).any
        | with_reducible exact (meek_asInt _).any
        | with_reducible exact (meek_asBool _).any
        | with_reducible exact (meek_asString _).any
        | with_reducible exact (meek_asAgg _).any
        | with_reducible exact (meek_asAddr _).any
        | with_reducible exact (meek_askRoom _).any
        | with_reducible exact (meek_behind _).any
        | with_reducible exact (meek_asNumber _ _).any
        | with_reducible exact (meek_noView _).any
        | with_reducible exact (meek_byteOf _).any
        | with_reducible exact (meek_fieldPlace _ _).any
        | with_reducible exact (Meek.viewAt _).any
        | with_reducible exact (Meek.numberAt _).any
        | with_reducible exact (Meek.program).any
        | with_reducible refine Meek.bind (N := fun _ => True) ?_ fun _ _ => ?_
        | with_reducible refine Meek.ite (fun _ => ?_) (fun _ => ?_)
        | split
        | dsimp only
    · exact Meek.pure trivial
    · exact Meek.pure trivial
    · exact Meek.pure trivial
    · refine Meek.getObjBind _ (fun _ o _ => ?_) Dead.stuck
      repeat' first
        | with_reducible exact Meek.pure trivial
        | with_reducible exact Meek.stuck
        | with_reducible exact Meek.goPanic
        | with_reducible exact Meek.unsup (fun g h => by cases h)
        | with_reducible exact Meek.runtimePanic _
        | with_reducible exact Meek.boundsPanic _ _ _ _
        | with_reducible exact Meek.noRoom
        | with_reducible exact (Meek.choose _).any
        | with_reducible exact (Meek.load _ _).any
        | with_reducible exact (Meek.store _ _ _).any
        | with_reducible exact (meek_typeInfo _).any
        | with_reducible exact (meek_underlying _).any
        | with_reducible exact (meek_typeStr _).any
        | with_reducible exact (meek_zeroValue _).any
        | with_reducible exact (meek_sizeOf _).any
        | with_reducible exact (meek_isAgg _).any
        | with_reducible exact (meek_loadCells _ _).any
        | with_reducible exact (meek_storeCells _ _ _).any
        | with_reducible exact (meek_loadVar _ _).any
        | with_reducible exact (meek_storeVar _ _ _).any
        | with_reducible exact (meek_newRow _ _).any
        | with_reducible exact (meek_newVar _ _).any
        | with_reducible exact (meek_elemOf _).any
        | with_reducible exact (meek_part _ _ _).any
        | with_reducible exact (meek_asIntOf _).any
        | with_reducible exact (meek_asInt _).any
        | with_reducible exact (meek_asBool _).any
        | with_reducible exact (meek_asString _).any
        | with_reducible exact (meek_asAgg _).any
        | with_reducible exact (meek_asAddr _).any
        | with_reducible exact (meek_askRoom _).any
        | with_reducible exact (meek_behind _).any
        | with_reducible exact (meek_asNumber _ _).any
        | with_reducible exact (meek_noView _).any
        | with_reducible exact (meek_byteOf _).any
        | with_reducible exact (meek_fieldPlace _ _).any
        | with_reducible exact (Meek.viewAt _).any
        | with_reducible exact (Meek.numberAt _).any
        | with_reducible exact (Meek.program).any
        | with_reducible refine Meek.bind (N := fun _ => True) ?_ fun _ _ => ?_
        | with_reducible refine Meek.ite (fun _ => ?_) (fun _ => ?_)
        | split
        | dsimp only
    · refine Meek.getObjBind _ (fun _ o _ => ?_) Dead.stuck
      repeat' first
        | with_reducible exact Meek.pure trivial
        | with_reducible exact Meek.stuck
        | with_reducible exact Meek.goPanic
        | with_reducible exact Meek.unsup (fun g h => by cases h)
        | with_reducible exact Meek.runtimePanic _
        | with_reducible exact Meek.boundsPanic _ _ _ _
        | with_reducible exact Meek.noRoom
        | with_reducible exact (Meek.choose _).any
        | with_reducible exact (Meek.load _ _).any
        | with_reducible exact (Meek.store _ _ _).any
        | with_reducible exact (meek_typeInfo _).any
        | with_reducible exact (meek_underlying _).any
        | with_reducible exact (meek_typeStr _).any
        | with_reducible exact (meek_zeroValue _).any
        | with_reducible exact (meek_sizeOf _).any
        | with_reducible exact (meek_isAgg _).any
        | with_reducible exact (meek_loadCells _ _).any
        | with_reducible exact (meek_storeCells _ _ _).any
        | with_reducible exact (meek_loadVar _ _).any
        | with_reducible exact (meek_storeVar _ _ _).any
        | with_reducible exact (meek_newRow _ _).any
        | with_reducible exact (meek_newVar _ _).any
        | with_reducible exact (meek_elemOf _).any
        | with_reducible exact (meek_part _ _ _).any
        | with_reducible exact (meek_asIntOf _).any
        | with_reducible exact (meek_asInt _).any
        | with_reducible exact (meek_asBool _).any
        | with_reducible exact (meek_asString _).any
        | with_reducible exact (meek_asAgg _).any
        | with_reducible exact (meek_asAddr _).any
        | with_reducible exact (meek_askRoom _).any
        | with_reducible exact (meek_behind _).any
        | with_reducible exact (meek_asNumber _ _).any
        | with_reducible exact (meek_noView _).any
        | with_reducible exact (meek_byteOf _).any
        | with_reducible exact (meek_fieldPlace _ _).any
        | with_reducible exact (Meek.viewAt _).any
        | with_reducible exact (Meek.numberAt _).any
        | with_reducible exact (Meek.program).any
        | with_reducible refine Meek.bind (N := fun _ => True) ?_ fun _ _ => ?_
        | with_reducible refine Meek.ite (fun _ => ?_) (fun _ => ?_)
        | split
        | dsimp only
    · exact Meek.stuck
  · exact Meek.stuck
theorem meek_cap (a t l) : Meek P q Z C (fun _ => True) (Builtin.cap_ a t l) := by
  unfold Builtin.cap_
  split
  · refine Meek.bind (meek_underlying _) fun d _ => ?_
    split
    · exact Meek.pure trivial
    · repeat' first
        | with_reducible exact Meek.pure trivial
        | with_reducible exact Meek.stuck
        | with_reducible exact Meek.goPanic
        | with_reducible exact Meek.unsup (fun g h => by cases h)
        | with_reducible exact Meek.runtimePanic _
        | with_reducible exact Meek.boundsPanic _ _ _ _
        | with_reducible exact Meek.noRoom
        | with_reducible exact (Meek.choose _).any
        | with_reducible exact (Meek.load _ _).any
        | with_reducible exact (Meek.store _ _ _).any
        | with_reducible exact (meek_typeInfo _).any
        | with_reducible exact (meek_underlying _).any
        | with_reducible exact (meek_typeStr _).any
        | with_reducible exact (meek_zeroValue _).any
        | with_reducible exact (meek_sizeOf _).any
        | with_reducible exact (meek_isAgg _).any
        | with_reducible exact (meek_loadCells _ _).any
        | with_reducible exact (meek_storeCells _ _ _).any
        | with_reducible exact (meek_loadVar _ _).any
        | with_reducible exact (meek_storeVar _ _ _).any
        | with_reducible exact (meek_newRow _ _).any
        | with_reducible exact (meek_newVar _ _).any
        | with_reducible exact (meek_elemOf _).any
        | with_reducible exact (meek_part _ _ _).any
        | with_reducible exact (meek_asIntOf _).any
        | with_reducible exact (meek_asInt _).any
        | with_reducible exact (meek_asBool _).any
        | with_reducible exact (meek_asString _).any
        | with_reducible exact (meek_asAgg _).any
        | with_reducible exact (meek_asAddr _).any
        | with_reducible exact (meek_askRoom _).any
        | with_reducible exact (meek_behind _).any
        | with_reducible exact (meek_asNumber _ _).any
        | with_reducible exact (meek_noView _).any
        | with_reducible exact (meek_byteOf _).any
        | with_reducible exact (meek_fieldPlace _ _).any
        | with_reducible exact (Meek.viewAt _).any
        | with_reducible exact (Meek.numberAt _).any
        | with_reducible exact (Meek.program).any
        | with_reducible refine Meek.bind (N := fun _ => True) ?_ fun _ _ => ?_
        | with_reducible refine Meek.ite (fun _ => ?_) (fun _ => ?_)
        | split
        | dsimp only
    · exact Meek.pure trivial
    · exact Meek.pure trivial
    · refine Meek.getObjBind _ (fun _ o _ => ?_) Dead.stuck
      repeat' first
        | with_reducible exact Meek.pure trivial
        | with_reducible exact Meek.stuck
        | with_reducible exact Meek.goPanic
        | with_reducible exact Meek.unsup (fun g h => by cases h)
        | with_reducible exact Meek.runtimePanic _
        | with_reducible exact Meek.boundsPanic _ _ _ _
        | with_reducible exact Meek.noRoom
        | with_reducible exact (Meek.choose _).any
        | with_reducible exact (Meek.load _ _).any
        | with_reducible exact (Meek.store _ _ _).any
        | with_reducible exact (meek_typeInfo _).any
        | with_reducible exact (meek_underlying _).any
        | with_reducible exact (meek_typeStr _).any
        | with_reducible exact (meek_zeroValue _).any
        | with_reducible exact (meek_sizeOf _).any
        | with_reducible exact (meek_isAgg _).any
        | with_reducible exact (meek_loadCells _ _).any
        | with_reducible exact (meek_storeCells _ _ _).any
        | with_reducible exact (meek_loadVar _ _).any
        | with_reducible exact (meek_storeVar _ _ _).any
        | with_reducible exact (meek_newRow _ _).any
        | with_reducible exact (meek_newVar _ _).any
        | with_reducible exact (meek_elemOf _).any
        | with_reducible exact (meek_part _ _ _).any
        | with_reducible exact (meek_asIntOf _).any
        | with_reducible exact (meek_asInt _).any
        | with_reducible exact (meek_asBool _).any
        | with_reducible exact (meek_asString _).any
        | with_reducible exact (meek_asAgg _).any
        | with_reducible exact (meek_asAddr _).any
        | with_reducible exact (meek_askRoom _).any
        | with_reducible exact (meek_behind _).any
        | with_reducible exact (meek_asNumber _ _).any
        | with_reducible exact (meek_noView _).any
        | with_reducible exact (meek_byteOf _).any
        | with_reducible exact (meek_fieldPlace _ _).any
        | with_reducible exact (Meek.viewAt _).any
        | with_reducible exact (Meek.numberAt _).any
        | with_reducible exact (Meek.program).any
        | with_reducible refine Meek.bind (N := fun _ => True) ?_ fun _ _ => ?_
        | with_reducible refine Meek.ite (fun _ => ?_) (fun _ => ?_)
        | split
        | dsimp only
    · exact Meek.stuck
  · exact Meek.stuck
/-- A close comes to nothing: the ghost world has no channel. -/
theorem dead_close (hq : ¬ q) (a t l) : Dead P q Z C (Builtin.close_ a t l) := by
  unfold Builtin.close_
  have stuckIt : Dead P q Z C (stuck "close: one channel expected" : Sem Value) := Dead.stuck
  obtain ⟨l⟩ := l
  rcases l with _ | ⟨v, _ | ⟨v', r⟩⟩
  · exact stuckIt
  · cases v with
    | chan c =>
      cases c with
      | none => exact dead_runtimePanic _
      | some r =>
        intro G hG
        have : ∃ h w, (getObj r).run P G = .halt h w ∧ (Fine h ∧ Inv q Z C w) ∨ ∃ o, (getObj r).run P G = .ok o G ∧ ∀ a b c d e f, o ≠ .chan a b c d e f := by
          cases hb : G.heap[r]? with
          | none => exact ⟨.stuck "getObj: no such block", G, .inl ⟨by simp [Go.getObj, Sem.run, hb], trivial, hG⟩⟩
          | some o =>
            by_cases hcells : ∃ c e f, o = .cells c e f
            · obtain ⟨c, e, f, rfl⟩ := hcells
              exact ⟨.stuck "getObj: a row of cells", G, .inl ⟨by simp only [Go.getObj, Sem.run, hb], trivial, hG⟩⟩
            · exact ⟨.blocked, G, .inr ⟨o, (obj_run (fun c e f h => hcells ⟨c, e, f, h⟩) hb).1, fun a b c d e f h => by subst h; exact hq (hG.ok _ _ hb)⟩⟩
        obtain ⟨h, w, ⟨h1, h2⟩ | ⟨o, h1, h2⟩⟩ := this
        · refine ⟨h, w, ?_, h2⟩
          show ((getObj r >>= _).run P G) = _
          rw [Sem.run_bind, h1]; rfl
        · refine ⟨.stuck "close: no channel in this block", G, ?_, trivial, hG⟩
          show ((getObj r >>= _).run P G) = _
          rw [Sem.run_bind, h1]
          cases o <;> first | rfl | exact absurd rfl (h2 _ _ _ _ _ _)
    | _ => exact stuckIt
  · exact stuckIt

theorem meek_bytesToString (x) : Meek P q Z C (fun _ => True) (Conv.bytesToString x) := by
  unfold Conv.bytesToString
  split
  · exact Meek.pure trivial
  · refine Meek.bind (meek_loadCells _ _) fun cs _ => ?_
    refine Meek.bind (N := fun _ => True) (meek_forInArray (M := fun _ => True) _ _ _ (fun c _ s _ => ?_) trivial) fun s _ => Meek.pure trivial
    repeat' first
      | with_reducible exact Meek.pure trivial
      | with_reducible exact Meek.stuck
      | with_reducible exact Meek.goPanic
      | with_reducible exact Meek.unsup (fun g h => by cases h)
      | with_reducible exact Meek.runtimePanic _
      | with_reducible exact Meek.boundsPanic _ _ _ _
      | with_reducible exact Meek.noRoom
      | with_reducible exact (Meek.choose _).any
      | with_reducible exact (Meek.load _ _).any
      | with_reducible exact (Meek.store _ _ _).any
      | with_reducible exact (meek_typeInfo _).any
      | with_reducible exact (meek_underlying _).any
      | with_reducible exact (meek_typeStr _).any
      | with_reducible exact (meek_zeroValue _).any
      | with_reducible exact (meek_sizeOf _).any
      | with_reducible exact (meek_isAgg _).any
      | with_reducible exact (meek_loadCells _ _).any
      | with_reducible exact (meek_storeCells _ _ _).any
      | with_reducible exact (meek_loadVar _ _).any
      | with_reducible exact (meek_storeVar _ _ _).any
      | with_reducible exact (meek_newRow _ _).any
      | with_reducible exact (meek_newVar _ _).any
      | with_reducible exact (meek_elemOf _).any
      | with_reducible exact (meek_part _ _ _).any
      | with_reducible exact (meek_asIntOf _).any
      | with_reducible exact (meek_asInt _).any
      | with_reducible exact (meek_asBool _).any
      | with_reducible exact (meek_asString _).any
      | with_reducible exact (meek_asAgg _).any
      | with_reducible exact (meek_asAddr _).any
      | with_reducible exact (meek_askRoom _).any
      | with_reducible exact (meek_behind _).any
      | with_reducible exact (meek_asNumber _ _).any
      | with_reducible exact (meek_noView _).any
      | with_reducible exact (meek_byteOf _).any
      | with_reducible exact (meek_fieldPlace _ _).any
      | with_reducible exact (Meek.viewAt _).any
      | with_reducible exact (Meek.numberAt _).any
      | with_reducible exact (Meek.program).any
      | with_reducible refine Meek.bind (N := fun _ => True) ?_ fun _ _ => ?_
      | with_reducible refine Meek.ite (fun _ => ?_) (fun _ => ?_)
      | split
      | dsimp only
  · exact Meek.stuck

/-! ### equality, where no pointer is compared -/
/-- A type at which equality looks at values alone. -/
def plainEq (P : Program) : Nat → TypeId → Bool
  | 0, _ => false
  | d + 1, t => match P.underlying t with
    | some .bool | some (.int _) | some .string | some (.slice _) => true
    | some (.struct fs) => fs.toList.all fun f => plainEq P d f.type
    | _ => false
theorem meek_equalIn : ∀ (n d : Nat) (t : TypeId) (x y : Value), plainEq P n t = true → Meek P q Z C (fun _ => True) (Op.equalIn d t x y)
  | n, 0, t, x, y, _ => Meek.unsup (fun g h => by cases h)
  | 0, d + 1, t, x, y, h => by cases h
  | n + 1, d + 1, t, x, y, h => by
    unfold Op.equalIn
    refine Meek.bind (meek_underlying t) fun u hu => ?_
    unfold plainEq at h
    rw [hu] at h
    have hk : (∀ e, u ≠ .pointer e) ∧ u ≠ .unsafePointer ∧ (∀ m, u ≠ .interface m) ∧ (∀ l e, u ≠ .array l e) := by
      refine ⟨fun e h' => ?_, fun h' => ?_, fun e h' => ?_, fun l e h' => ?_⟩ <;> subst h' <;> simp at h
    obtain ⟨hp, hup, hin, har⟩ := hk
    split
    · exact Meek.pure trivial
    · repeat' first
        | with_reducible exact Meek.pure trivial
        | with_reducible exact Meek.stuck
        | with_reducible exact Meek.goPanic
        | with_reducible exact Meek.unsup (fun g h => by cases h)
        | with_reducible exact Meek.runtimePanic _
        | with_reducible exact Meek.boundsPanic _ _ _ _
        | with_reducible exact Meek.noRoom
        | with_reducible exact (Meek.choose _).any
        | with_reducible exact (Meek.load _ _).any
        | with_reducible exact (Meek.store _ _ _).any
        | with_reducible exact (meek_typeInfo _).any
        | with_reducible exact (meek_underlying _).any
        | with_reducible exact (meek_typeStr _).any
        | with_reducible exact (meek_zeroValue _).any
        | with_reducible exact (meek_sizeOf _).any
        | with_reducible exact (meek_isAgg _).any
        | with_reducible exact (meek_loadCells _ _).any
        | with_reducible exact (meek_storeCells _ _ _).any
        | with_reducible exact (meek_loadVar _ _).any
        | with_reducible exact (meek_storeVar _ _ _).any
        | with_reducible exact (meek_newRow _ _).any
        | with_reducible exact (meek_newVar _ _).any
        | with_reducible exact (meek_elemOf _).any
        | with_reducible exact (meek_part _ _ _).any
        | with_reducible exact (meek_asIntOf _).any
        | with_reducible exact (meek_asInt _).any
        | with_reducible exact (meek_asBool _).any
        | with_reducible exact (meek_asString _).any
        | with_reducible exact (meek_asAgg _).any
        | with_reducible exact (meek_asAddr _).any
        | with_reducible exact (meek_askRoom _).any
        | with_reducible exact (meek_behind _).any
        | with_reducible exact (meek_asNumber _ _).any
        | with_reducible exact (meek_noView _).any
        | with_reducible exact (meek_byteOf _).any
        | with_reducible exact (meek_fieldPlace _ _).any
        | with_reducible exact (Meek.viewAt _).any
        | with_reducible exact (Meek.numberAt _).any
        | with_reducible exact (Meek.program).any
        | with_reducible refine Meek.bind (N := fun _ => True) ?_ fun _ _ => ?_
        | with_reducible refine Meek.ite (fun _ => ?_) (fun _ => ?_)
        | split
        | dsimp only
    · exact Meek.pure trivial
    · exact Meek.pure trivial
    · repeat' first
        | with_reducible exact Meek.pure trivial
        | with_reducible exact Meek.stuck
        | with_reducible exact Meek.goPanic
        | with_reducible exact Meek.unsup (fun g h => by cases h)
        | with_reducible exact Meek.runtimePanic _
        | with_reducible exact Meek.boundsPanic _ _ _ _
        | with_reducible exact Meek.noRoom
        | with_reducible exact (Meek.choose _).any
        | with_reducible exact (Meek.load _ _).any
        | with_reducible exact (Meek.store _ _ _).any
        | with_reducible exact (meek_typeInfo _).any
        | with_reducible exact (meek_underlying _).any
        | with_reducible exact (meek_typeStr _).any
        | with_reducible exact (meek_zeroValue _).any
        | with_reducible exact (meek_sizeOf _).any
        | with_reducible exact (meek_isAgg _).any
        | with_reducible exact (meek_loadCells _ _).any
        | with_reducible exact (meek_storeCells _ _ _).any
        | with_reducible exact (meek_loadVar _ _).any
        | with_reducible exact (meek_storeVar _ _ _).any
        | with_reducible exact (meek_newRow _ _).any
        | with_reducible exact (meek_newVar _ _).any
        | with_reducible exact (meek_elemOf _).any
        | with_reducible exact (meek_part _ _ _).any
        | with_reducible exact (meek_asIntOf _).any
        | with_reducible exact (meek_asInt _).any
        | with_reducible exact (meek_asBool _).any
        | with_reducible exact (meek_asString _).any
        | with_reducible exact (meek_asAgg _).any
        | with_reducible exact (meek_asAddr _).any
        | with_reducible exact (meek_askRoom _).any
        | with_reducible exact (meek_behind _).any
        | with_reducible exact (meek_asNumber _ _).any
        | with_reducible exact (meek_noView _).any
        | with_reducible exact (meek_byteOf _).any
        | with_reducible exact (meek_fieldPlace _ _).any
        | with_reducible exact (Meek.viewAt _).any
        | with_reducible exact (Meek.numberAt _).any
        | with_reducible exact (Meek.program).any
        | with_reducible refine Meek.bind (N := fun _ => True) ?_ fun _ _ => ?_
        | with_reducible refine Meek.ite (fun _ => ?_) (fun _ => ?_)
        | split
        | dsimp only
    · exact Meek.unsup (fun g h => by cases h)
    · exact Meek.unsup (fun g h => by cases h)
    · repeat' first
        | with_reducible exact Meek.pure trivial
        | with_reducible exact Meek.stuck
        | with_reducible exact Meek.goPanic
        | with_reducible exact Meek.unsup (fun g h => by cases h)
        | with_reducible exact Meek.runtimePanic _
        | with_reducible exact Meek.boundsPanic _ _ _ _
        | with_reducible exact Meek.noRoom
        | with_reducible exact (Meek.choose _).any
        | with_reducible exact (Meek.load _ _).any
        | with_reducible exact (Meek.store _ _ _).any
        | with_reducible exact (meek_typeInfo _).any
        | with_reducible exact (meek_underlying _).any
        | with_reducible exact (meek_typeStr _).any
        | with_reducible exact (meek_zeroValue _).any
        | with_reducible exact (meek_sizeOf _).any
        | with_reducible exact (meek_isAgg _).any
        | with_reducible exact (meek_loadCells _ _).any
        | with_reducible exact (meek_storeCells _ _ _).any
        | with_reducible exact (meek_loadVar _ _).any
        | with_reducible exact (meek_storeVar _ _ _).any
        | with_reducible exact (meek_newRow _ _).any
        | with_reducible exact (meek_newVar _ _).any
        | with_reducible exact (meek_elemOf _).any
        | with_reducible exact (meek_part _ _ _).any
        | with_reducible exact (meek_asIntOf _).any
        | with_reducible exact (meek_asInt _).any
        | with_reducible exact (meek_asBool _).any
        | with_reducible exact (meek_asString _).any
        | with_reducible exact (meek_asAgg _).any
        | with_reducible exact (meek_asAddr _).any
        | with_reducible exact (meek_askRoom _).any
        | with_reducible exact (meek_behind _).any
        | with_reducible exact (meek_asNumber _ _).any
        | with_reducible exact (meek_noView _).any
        | with_reducible exact (meek_byteOf _).any
        | with_reducible exact (meek_fieldPlace _ _).any
        | with_reducible exact (Meek.viewAt _).any
        | with_reducible exact (Meek.numberAt _).any
        | with_reducible exact (Meek.program).any
        | with_reducible refine Meek.bind (N := fun _ => True) ?_ fun _ _ => ?_
        | with_reducible refine Meek.ite (fun _ => ?_) (fun _ => ?_)
        | split
        | dsimp only
    · repeat' first
        | with_reducible exact Meek.pure trivial
        | with_reducible exact Meek.stuck
        | with_reducible exact Meek.goPanic
        | with_reducible exact Meek.unsup (fun g h => by cases h)
        | with_reducible exact Meek.runtimePanic _
        | with_reducible exact Meek.boundsPanic _ _ _ _
        | with_reducible exact Meek.noRoom
        | with_reducible exact (Meek.choose _).any
        | with_reducible exact (Meek.load _ _).any
        | with_reducible exact (Meek.store _ _ _).any
        | with_reducible exact (meek_typeInfo _).any
        | with_reducible exact (meek_underlying _).any
        | with_reducible exact (meek_typeStr _).any
        | with_reducible exact (meek_zeroValue _).any
        | with_reducible exact (meek_sizeOf _).any
        | with_reducible exact (meek_isAgg _).any
        | with_reducible exact (meek_loadCells _ _).any
        | with_reducible exact (meek_storeCells _ _ _).any
        | with_reducible exact (meek_loadVar _ _).any
        | with_reducible exact (meek_storeVar _ _ _).any
        | with_reducible exact (meek_newRow _ _).any
        | with_reducible exact (meek_newVar _ _).any
        | with_reducible exact (meek_elemOf _).any
        | with_reducible exact (meek_part _ _ _).any
        | with_reducible exact (meek_asIntOf _).any
        | with_reducible exact (meek_asInt _).any
        | with_reducible exact (meek_asBool _).any
        | with_reducible exact (meek_asString _).any
        | with_reducible exact (meek_asAgg _).any
        | with_reducible exact (meek_asAddr _).any
        | with_reducible exact (meek_askRoom _).any
        | with_reducible exact (meek_behind _).any
        | with_reducible exact (meek_asNumber _ _).any
        | with_reducible exact (meek_noView _).any
        | with_reducible exact (meek_byteOf _).any
        | with_reducible exact (meek_fieldPlace _ _).any
        | with_reducible exact (Meek.viewAt _).any
        | with_reducible exact (Meek.numberAt _).any
        | with_reducible exact (Meek.program).any
        | with_reducible refine Meek.bind (N := fun _ => True) ?_ fun _ _ => ?_
        | with_reducible refine Meek.ite (fun _ => ?_) (fun _ => ?_)
        | split
        | dsimp only
    · exact Meek.pure trivial
    · exact Meek.pure trivial
    · exact Meek.pure trivial
    · exact absurd rfl (hp _)
    · exact absurd rfl hup
    · exact Meek.pure trivial
    · exact Meek.pure trivial
    · exact Meek.pure trivial
    · exact Meek.pure trivial
    · exact absurd rfl (hin _)
    · simp only [List.all_eq_true] at h
      refine Meek.bind Meek.program fun p _ => ?_
      have key : ∀ b : Bool, b = b := fun _ => rfl
      dsimp only
      refine Meek.ite (fun _ => ?_) (fun _ => ?_)
      · exact (Dead.bind (Dead.unsupported (fun g h => by cases h))).meek
      · refine Meek.bind (N := fun _ => True) (meek_forInArray (M := fun _ => True) _ _ _ (fun f hf r _ => ?_) trivial) fun r _ => ?_
        · repeat' first
            | with_reducible exact Meek.pure trivial
            | with_reducible exact Meek.stuck
            | with_reducible exact Meek.goPanic
            | with_reducible exact Meek.unsup (fun g h => by cases h)
            | with_reducible exact Meek.runtimePanic _
            | with_reducible exact Meek.boundsPanic _ _ _ _
            | with_reducible exact (meek_equalIn n d f.type _ _ (h f hf)).any
            | with_reducible exact Meek.noRoom
            | with_reducible exact (Meek.choose _).any
            | with_reducible exact (Meek.load _ _).any
            | with_reducible exact (Meek.store _ _ _).any
            | with_reducible exact (meek_typeInfo _).any
            | with_reducible exact (meek_underlying _).any
            | with_reducible exact (meek_typeStr _).any
            | with_reducible exact (meek_zeroValue _).any
            | with_reducible exact (meek_sizeOf _).any
            | with_reducible exact (meek_isAgg _).any
            | with_reducible exact (meek_loadCells _ _).any
            | with_reducible exact (meek_storeCells _ _ _).any
            | with_reducible exact (meek_loadVar _ _).any
            | with_reducible exact (meek_storeVar _ _ _).any
            | with_reducible exact (meek_newRow _ _).any
            | with_reducible exact (meek_newVar _ _).any
            | with_reducible exact (meek_elemOf _).any
            | with_reducible exact (meek_part _ _ _).any
            | with_reducible exact (meek_asIntOf _).any
            | with_reducible exact (meek_asInt _).any
            | with_reducible exact (meek_asBool _).any
            | with_reducible exact (meek_asString _).any
            | with_reducible exact (meek_asAgg _).any
            | with_reducible exact (meek_asAddr _).any
            | with_reducible exact (meek_askRoom _).any
            | with_reducible exact (meek_behind _).any
            | with_reducible exact (meek_asNumber _ _).any
            | with_reducible exact (meek_noView _).any
            | with_reducible exact (meek_byteOf _).any
            | with_reducible exact (meek_fieldPlace _ _).any
            | with_reducible exact (Meek.viewAt _).any
            | with_reducible exact (Meek.numberAt _).any
            | with_reducible exact (Meek.program).any
            | with_reducible refine Meek.bind (N := fun _ => True) ?_ fun _ _ => ?_
            | with_reducible refine Meek.ite (fun _ => ?_) (fun _ => ?_)
            | split
            | dsimp only
        · repeat' first
            | with_reducible exact Meek.pure trivial
            | with_reducible exact Meek.stuck
            | with_reducible exact Meek.goPanic
            | with_reducible exact Meek.unsup (fun g h => by cases h)
            | with_reducible exact Meek.runtimePanic _
            | with_reducible exact Meek.boundsPanic _ _ _ _
            | with_reducible exact Meek.noRoom
            | with_reducible exact (Meek.choose _).any
            | with_reducible exact (Meek.load _ _).any
            | with_reducible exact (Meek.store _ _ _).any
            | with_reducible exact (meek_typeInfo _).any
            | with_reducible exact (meek_underlying _).any
            | with_reducible exact (meek_typeStr _).any
            | with_reducible exact (meek_zeroValue _).any
            | with_reducible exact (meek_sizeOf _).any
            | with_reducible exact (meek_isAgg _).any
            | with_reducible exact (meek_loadCells _ _).any
            | with_reducible exact (meek_storeCells _ _ _).any
            | with_reducible exact (meek_loadVar _ _).any
            | with_reducible exact (meek_storeVar _ _ _).any
            | with_reducible exact (meek_newRow _ _).any
            | with_reducible exact (meek_newVar _ _).any
            | with_reducible exact (meek_elemOf _).any
            | with_reducible exact (meek_part _ _ _).any
            | with_reducible exact (meek_asIntOf _).any
            | with_reducible exact (meek_asInt _).any
            | with_reducible exact (meek_asBool _).any
            | with_reducible exact (meek_asString _).any
            | with_reducible exact (meek_asAgg _).any
            | with_reducible exact (meek_asAddr _).any
            | with_reducible exact (meek_askRoom _).any
            | with_reducible exact (meek_behind _).any
            | with_reducible exact (meek_asNumber _ _).any
            | with_reducible exact (meek_noView _).any
            | with_reducible exact (meek_byteOf _).any
            | with_reducible exact (meek_fieldPlace _ _).any
            | with_reducible exact (Meek.viewAt _).any
            | with_reducible exact (Meek.numberAt _).any
            | with_reducible exact (Meek.program).any
            | with_reducible refine Meek.bind (N := fun _ => True) ?_ fun _ _ => ?_
            | with_reducible refine Meek.ite (fun _ => ?_) (fun _ => ?_)
            | split
            | dsimp only
    · exact absurd rfl (har _ _)
    · exact Meek.pure trivial
    · exact Meek.pure trivial
    · exact Meek.pure trivial
    · exact Meek.pure trivial
    · exact Meek.pure trivial
    · exact Meek.pure trivial
    · exact Meek.pure trivial
    · exact Meek.stuck
end
end Go.Proofs.YtlanlkpamnoekaaDoor.Lk
namespace Go.Proofs.YtlanlkpamnoekaaDoor.Lk
open Go

/-- What an operation may come to: a value, nothing, a call of a function, a round, a communication that waits. -/
def NN (C : Code → Prop) : Next → Prop
  | .value _ | .skip | .enter .. => True
  | .round _ _ _ a b => C a ∧ C b
  | .comm _ b _ => b = true
  | _ => False

section
variable {P : Program} {q : Prop} {Z : Nat → Prop} {C : Code → Prop} {α β σ : Type}

theorem meek_eqGuardIn : ∀ (d : Nat) (t : TypeId) (x y : Value), Meek P q Z C (fun _ => True) (Op.eqGuardIn d t x y)
  | 0, _, _, _ => Meek.unsup (fun g h => by cases h)
  | d + 1, t, x, y => by
    unfold Op.eqGuardIn
    refine Meek.bind (meek_underlying t) fun u _ => ?_
    split
    · exact Meek.pure trivial
    · refine Meek.bind (N := fun _ => True) (meek_forInArray (M := fun _ => True) _ _ _ (fun f hf r _ => ?_) trivial) fun r _ => ?_
      · repeat' first
          | with_reducible exact Meek.pure trivial
          | with_reducible exact Meek.stuck
          | with_reducible exact Meek.goPanic
          | with_reducible exact Meek.unsup (fun g h => by cases h)
          | with_reducible exact Meek.runtimePanic _
          | with_reducible exact Meek.boundsPanic _ _ _ _
          | with_reducible exact (meek_eqGuardIn d f.type _ _).any
          | with_reducible exact Meek.noRoom
          | with_reducible exact (Meek.choose _).any
          | with_reducible exact (Meek.load _ _).any
          | with_reducible exact (Meek.store _ _ _).any
          | with_reducible exact (meek_typeInfo _).any
          | with_reducible exact (meek_underlying _).any
          | with_reducible exact (meek_typeStr _).any
          | with_reducible exact (meek_zeroValue _).any
          | with_reducible exact (meek_sizeOf _).any
          | with_reducible exact (meek_isAgg _).any
          | with_reducible exact (meek_loadCells _ _).any
          | with_reducible exact (meek_storeCells _ _ _).any
          | with_reducible exact (meek_loadVar _ _).any
          | with_reducible exact (meek_storeVar _ _ _).any
          | with_reducible exact (meek_newRow _ _).any
          | with_reducible exact (meek_newVar _ _).any
          | with_reducible exact (meek_elemOf _).any
          | with_reducible exact (meek_part _ _ _).any
          | with_reducible exact (meek_asIntOf _).any
          | with_reducible exact (meek_asInt _).any
          | with_reducible exact (meek_asBool _).any
          | with_reducible exact (meek_asString _).any
          | with_reducible exact (meek_asAgg _).any
          | with_reducible exact (meek_asAddr _).any
          | with_reducible exact (meek_askRoom _).any
          | with_reducible exact (meek_behind _).any
          | with_reducible exact (meek_asNumber _ _).any
          | with_reducible exact (meek_noView _).any
          | with_reducible exact (meek_byteOf _).any
          | with_reducible exact (meek_fieldPlace _ _).any
          | with_reducible exact (Meek.viewAt _).any
          | with_reducible exact (Meek.numberAt _).any
          | with_reducible exact (Meek.program).any
          | with_reducible refine Meek.bind (N := fun _ => True) ?_ fun _ _ => ?_
          | with_reducible refine Meek.ite (fun _ => ?_) (fun _ => ?_)
          | split
          | dsimp only
      · repeat' first
          | with_reducible exact Meek.pure trivial
          | with_reducible exact Meek.stuck
          | with_reducible exact Meek.goPanic
          | with_reducible exact Meek.unsup (fun g h => by cases h)
          | with_reducible exact Meek.runtimePanic _
          | with_reducible exact Meek.boundsPanic _ _ _ _
          | with_reducible exact Meek.noRoom
          | with_reducible exact (Meek.choose _).any
          | with_reducible exact (Meek.load _ _).any
          | with_reducible exact (Meek.store _ _ _).any
          | with_reducible exact (meek_typeInfo _).any
          | with_reducible exact (meek_underlying _).any
          | with_reducible exact (meek_typeStr _).any
          | with_reducible exact (meek_zeroValue _).any
          | with_reducible exact (meek_sizeOf _).any
          | with_reducible exact (meek_isAgg _).any
          | with_reducible exact (meek_loadCells _ _).any
          | with_reducible exact (meek_storeCells _ _ _).any
          | with_reducible exact (meek_loadVar _ _).any
          | with_reducible exact (meek_storeVar _ _ _).any
          | with_reducible exact (meek_newRow _ _).any
          | with_reducible exact (meek_newVar _ _).any
          | with_reducible exact (meek_elemOf _).any
          | with_reducible exact (meek_part _ _ _).any
          | with_reducible exact (meek_asIntOf _).any
          | with_reducible exact (meek_asInt _).any
          | with_reducible exact (meek_asBool _).any
          | with_reducible exact (meek_asString _).any
          | with_reducible exact (meek_asAgg _).any
          | with_reducible exact (meek_asAddr _).any
          | with_reducible exact (meek_askRoom _).any
          | with_reducible exact (meek_behind _).any
          | with_reducible exact (meek_asNumber _ _).any
          | with_reducible exact (meek_noView _).any
          | with_reducible exact (meek_byteOf _).any
          | with_reducible exact (meek_fieldPlace _ _).any
          | with_reducible exact (Meek.viewAt _).any
          | with_reducible exact (Meek.numberAt _).any
          | with_reducible exact (Meek.program).any
          | with_reducible refine Meek.bind (N := fun _ => True) ?_ fun _ _ => ?_
          | with_reducible refine Meek.ite (fun _ => ?_) (fun _ => ?_)
          | split
          | dsimp only
    · refine Meek.bind (N := fun _ => True) (meek_sizeOf _).any fun n _ => Meek.bind (N := fun _ => True) (meek_forInRange (M := fun _ => True) _ (fun f r _ => ?_) _ _ trivial) fun r _ => ?_
      · repeat' first
          | with_reducible exact Meek.pure trivial
          | with_reducible exact Meek.stuck
          | with_reducible exact Meek.goPanic
          | with_reducible exact Meek.unsup (fun g h => by cases h)
          | with_reducible exact Meek.runtimePanic _
          | with_reducible exact Meek.boundsPanic _ _ _ _
          | with_reducible exact (meek_eqGuardIn d _ _ _).any
          | with_reducible exact Meek.noRoom
          | with_reducible exact (Meek.choose _).any
          | with_reducible exact (Meek.load _ _).any
          | with_reducible exact (Meek.store _ _ _).any
          | with_reducible exact (meek_typeInfo _).any
          | with_reducible exact (meek_underlying _).any
          | with_reducible exact (meek_typeStr _).any
          | with_reducible exact (meek_zeroValue _).any
          | with_reducible exact (meek_sizeOf _).any
          | with_reducible exact (meek_isAgg _).any
          | with_reducible exact (meek_loadCells _ _).any
          | with_reducible exact (meek_storeCells _ _ _).any
          | with_reducible exact (meek_loadVar _ _).any
          | with_reducible exact (meek_storeVar _ _ _).any
          | with_reducible exact (meek_newRow _ _).any
          | with_reducible exact (meek_newVar _ _).any
          | with_reducible exact (meek_elemOf _).any
          | with_reducible exact (meek_part _ _ _).any
          | with_reducible exact (meek_asIntOf _).any
          | with_reducible exact (meek_asInt _).any
          | with_reducible exact (meek_asBool _).any
          | with_reducible exact (meek_asString _).any
          | with_reducible exact (meek_asAgg _).any
          | with_reducible exact (meek_asAddr _).any
          | with_reducible exact (meek_askRoom _).any
          | with_reducible exact (meek_behind _).any
          | with_reducible exact (meek_asNumber _ _).any
          | with_reducible exact (meek_noView _).any
          | with_reducible exact (meek_byteOf _).any
          | with_reducible exact (meek_fieldPlace _ _).any
          | with_reducible exact (Meek.viewAt _).any
          | with_reducible exact (Meek.numberAt _).any
          | with_reducible exact (Meek.program).any
          | with_reducible refine Meek.bind (N := fun _ => True) ?_ fun _ _ => ?_
          | with_reducible refine Meek.ite (fun _ => ?_) (fun _ => ?_)
          | split
          | dsimp only
      · repeat' first
          | with_reducible exact Meek.pure trivial
          | with_reducible exact Meek.stuck
          | with_reducible exact Meek.goPanic
          | with_reducible exact Meek.unsup (fun g h => by cases h)
          | with_reducible exact Meek.runtimePanic _
          | with_reducible exact Meek.boundsPanic _ _ _ _
          | with_reducible exact Meek.noRoom
          | with_reducible exact (Meek.choose _).any
          | with_reducible exact (Meek.load _ _).any
          | with_reducible exact (Meek.store _ _ _).any
          | with_reducible exact (meek_typeInfo _).any
          | with_reducible exact (meek_underlying _).any
          | with_reducible exact (meek_typeStr _).any
          | with_reducible exact (meek_zeroValue _).any
          | with_reducible exact (meek_sizeOf _).any
          | with_reducible exact (meek_isAgg _).any
          | with_reducible exact (meek_loadCells _ _).any
          | with_reducible exact (meek_storeCells _ _ _).any
          | with_reducible exact (meek_loadVar _ _).any
          | with_reducible exact (meek_storeVar _ _ _).any
          | with_reducible exact (meek_newRow _ _).any
          | with_reducible exact (meek_newVar _ _).any
          | with_reducible exact (meek_elemOf _).any
          | with_reducible exact (meek_part _ _ _).any
          | with_reducible exact (meek_asIntOf _).any
          | with_reducible exact (meek_asInt _).any
          | with_reducible exact (meek_asBool _).any
          | with_reducible exact (meek_asString _).any
          | with_reducible exact (meek_asAgg _).any
          | with_reducible exact (meek_asAddr _).any
          | with_reducible exact (meek_askRoom _).any
          | with_reducible exact (meek_behind _).any
          | with_reducible exact (meek_asNumber _ _).any
          | with_reducible exact (meek_noView _).any
          | with_reducible exact (meek_byteOf _).any
          | with_reducible exact (meek_fieldPlace _ _).any
          | with_reducible exact (Meek.viewAt _).any
          | with_reducible exact (Meek.numberAt _).any
          | with_reducible exact (Meek.program).any
          | with_reducible refine Meek.bind (N := fun _ => True) ?_ fun _ _ => ?_
          | with_reducible refine Meek.ite (fun _ => ?_) (fun _ => ?_)
          | split
          | dsimp only
    · exact Meek.pure trivial
theorem meek_eqGuard (op t x y a b) : Meek P q Z C (fun _ => True) (eqGuard op t x y a b) := by
  unfold eqGuard
  repeat' first
    | with_reducible exact Meek.pure trivial
    | with_reducible exact Meek.stuck
    | with_reducible exact Meek.goPanic
    | with_reducible exact Meek.unsup (fun g h => by cases h)
    | with_reducible exact Meek.runtimePanic _
    | with_reducible exact Meek.boundsPanic _ _ _ _
    | with_reducible exact (meek_eqGuardIn _ _ _ _).any
    | with_reducible exact Meek.noRoom
    | with_reducible exact (Meek.choose _).any
    | with_reducible exact (Meek.load _ _).any
    | with_reducible exact (Meek.store _ _ _).any
    | with_reducible exact (meek_typeInfo _).any
    | with_reducible exact (meek_underlying _).any
    | with_reducible exact (meek_typeStr _).any
    | with_reducible exact (meek_zeroValue _).any
    | with_reducible exact (meek_sizeOf _).any
    | with_reducible exact (meek_isAgg _).any
    | with_reducible exact (meek_loadCells _ _).any
    | with_reducible exact (meek_storeCells _ _ _).any
    | with_reducible exact (meek_loadVar _ _).any
    | with_reducible exact (meek_storeVar _ _ _).any
    | with_reducible exact (meek_newRow _ _).any
    | with_reducible exact (meek_newVar _ _).any
    | with_reducible exact (meek_elemOf _).any
    | with_reducible exact (meek_part _ _ _).any
    | with_reducible exact (meek_asIntOf _).any
    | with_reducible exact (meek_asInt _).any
    | with_reducible exact (meek_asBool _).any
    | with_reducible exact (meek_asString _).any
    | with_reducible exact (meek_asAgg _).any
    | with_reducible exact (meek_asAddr _).any
    | with_reducible exact (meek_askRoom _).any
    | with_reducible exact (meek_behind _).any
    | with_reducible exact (meek_asNumber _ _).any
    | with_reducible exact (meek_noView _).any
    | with_reducible exact (meek_byteOf _).any
    | with_reducible exact (meek_fieldPlace _ _).any
    | with_reducible exact (Meek.viewAt _).any
    | with_reducible exact (Meek.numberAt _).any
    | with_reducible exact (Meek.program).any
    | with_reducible refine Meek.bind (N := fun _ => True) ?_ fun _ _ => ?_
    | with_reducible refine Meek.ite (fun _ => ?_) (fun _ => ?_)
    | split
    | dsimp only
theorem meek_binOp (op t x y) (h : op = .eql ∨ op = .neq → plainEq P 10 t = true) : Meek P q Z C (fun _ => True) (binOp op t x y) := by
  unfold binOp
  split
  · exact meek_shift _ _ _ _ _
  · exact meek_shift _ _ _ _ _
  · repeat' first
      | with_reducible exact Meek.pure trivial
      | with_reducible exact Meek.stuck
      | with_reducible exact Meek.goPanic
      | with_reducible exact Meek.unsup (fun g h => by cases h)
      | with_reducible exact Meek.runtimePanic _
      | with_reducible exact Meek.boundsPanic _ _ _ _
      | with_reducible exact (meek_intArith _ _ _ _).any
      | with_reducible exact (meek_intDiv _ _ _ _).any
      | with_reducible exact (meek_intBits _ _ _ _).any
      | with_reducible exact (meek_intCmp _ _ _).any
      | with_reducible exact Meek.noRoom
      | with_reducible exact (Meek.choose _).any
      | with_reducible exact (Meek.load _ _).any
      | with_reducible exact (Meek.store _ _ _).any
      | with_reducible exact (meek_typeInfo _).any
      | with_reducible exact (meek_underlying _).any
      | with_reducible exact (meek_typeStr _).any
      | with_reducible exact (meek_zeroValue _).any
      | with_reducible exact (meek_sizeOf _).any
      | with_reducible exact (meek_isAgg _).any
      | with_reducible exact (meek_loadCells _ _).any
      | with_reducible exact (meek_storeCells _ _ _).any
      | with_reducible exact (meek_loadVar _ _).any
      | with_reducible exact (meek_storeVar _ _ _).any
      | with_reducible exact (meek_newRow _ _).any
      | with_reducible exact (meek_newVar _ _).any
      | with_reducible exact (meek_elemOf _).any
      | with_reducible exact (meek_part _ _ _).any
      | with_reducible exact (meek_asIntOf _).any
      | with_reducible exact (meek_asInt _).any
      | with_reducible exact (meek_asBool _).any
      | with_reducible exact (meek_asString _).any
      | with_reducible exact (meek_asAgg _).any
      | with_reducible exact (meek_asAddr _).any
      | with_reducible exact (meek_askRoom _).any
      | with_reducible exact (meek_behind _).any
      | with_reducible exact (meek_asNumber _ _).any
      | with_reducible exact (meek_noView _).any
      | with_reducible exact (meek_byteOf _).any
      | with_reducible exact (meek_fieldPlace _ _).any
      | with_reducible exact (Meek.viewAt _).any
      | with_reducible exact (Meek.numberAt _).any
      | with_reducible exact (Meek.program).any
      | with_reducible refine Meek.bind (N := fun _ => True) ?_ fun _ _ => ?_
      | with_reducible refine Meek.ite (fun _ => ?_) (fun _ => ?_)
      | split
      | dsimp only
  · repeat' first
      | with_reducible exact Meek.pure trivial
      | with_reducible exact Meek.stuck
      | with_reducible exact Meek.goPanic
      | with_reducible exact Meek.unsup (fun g h => by cases h)
      | with_reducible exact Meek.runtimePanic _
      | with_reducible exact Meek.boundsPanic _ _ _ _
      | with_reducible exact (meek_floatArith _ _ _ _).any
      | with_reducible exact (meek_floatCmp _ _ _ _).any
      | with_reducible exact Meek.noRoom
      | with_reducible exact (Meek.choose _).any
      | with_reducible exact (Meek.load _ _).any
      | with_reducible exact (Meek.store _ _ _).any
      | with_reducible exact (meek_typeInfo _).any
      | with_reducible exact (meek_underlying _).any
      | with_reducible exact (meek_typeStr _).any
      | with_reducible exact (meek_zeroValue _).any
      | with_reducible exact (meek_sizeOf _).any
      | with_reducible exact (meek_isAgg _).any
      | with_reducible exact (meek_loadCells _ _).any
      | with_reducible exact (meek_storeCells _ _ _).any
      | with_reducible exact (meek_loadVar _ _).any
      | with_reducible exact (meek_storeVar _ _ _).any
      | with_reducible exact (meek_newRow _ _).any
      | with_reducible exact (meek_newVar _ _).any
      | with_reducible exact (meek_elemOf _).any
      | with_reducible exact (meek_part _ _ _).any
      | with_reducible exact (meek_asIntOf _).any
      | with_reducible exact (meek_asInt _).any
      | with_reducible exact (meek_asBool _).any
      | with_reducible exact (meek_asString _).any
      | with_reducible exact (meek_asAgg _).any
      | with_reducible exact (meek_asAddr _).any
      | with_reducible exact (meek_askRoom _).any
      | with_reducible exact (meek_behind _).any
      | with_reducible exact (meek_asNumber _ _).any
      | with_reducible exact (meek_noView _).any
      | with_reducible exact (meek_byteOf _).any
      | with_reducible exact (meek_fieldPlace _ _).any
      | with_reducible exact (Meek.viewAt _).any
      | with_reducible exact (Meek.numberAt _).any
      | with_reducible exact (Meek.program).any
      | with_reducible refine Meek.bind (N := fun _ => True) ?_ fun _ _ => ?_
      | with_reducible refine Meek.ite (fun _ => ?_) (fun _ => ?_)
      | split
      | dsimp only
  · repeat' first
      | with_reducible exact Meek.pure trivial
      | with_reducible exact Meek.stuck
      | with_reducible exact Meek.goPanic
      | with_reducible exact Meek.unsup (fun g h => by cases h)
      | with_reducible exact Meek.runtimePanic _
      | with_reducible exact Meek.boundsPanic _ _ _ _
      | with_reducible exact (meek_complexOp _ _ _ _ _ _).any
      | with_reducible exact Meek.noRoom
      | with_reducible exact (Meek.choose _).any
      | with_reducible exact (Meek.load _ _).any
      | with_reducible exact (Meek.store _ _ _).any
      | with_reducible exact (meek_typeInfo _).any
      | with_reducible exact (meek_underlying _).any
      | with_reducible exact (meek_typeStr _).any
      | with_reducible exact (meek_zeroValue _).any
      | with_reducible exact (meek_sizeOf _).any
      | with_reducible exact (meek_isAgg _).any
      | with_reducible exact (meek_loadCells _ _).any
      | with_reducible exact (meek_storeCells _ _ _).any
      | with_reducible exact (meek_loadVar _ _).any
      | with_reducible exact (meek_storeVar _ _ _).any
      | with_reducible exact (meek_newRow _ _).any
      | with_reducible exact (meek_newVar _ _).any
      | with_reducible exact (meek_elemOf _).any
      | with_reducible exact (meek_part _ _ _).any
      | with_reducible exact (meek_asIntOf _).any
      | with_reducible exact (meek_asInt _).any
      | with_reducible exact (meek_asBool _).any
      | with_reducible exact (meek_asString _).any
      | with_reducible exact (meek_asAgg _).any
      | with_reducible exact (meek_asAddr _).any
      | with_reducible exact (meek_askRoom _).any
      | with_reducible exact (meek_behind _).any
      | with_reducible exact (meek_asNumber _ _).any
      | with_reducible exact (meek_noView _).any
      | with_reducible exact (meek_byteOf _).any
      | with_reducible exact (meek_fieldPlace _ _).any
      | with_reducible exact (Meek.viewAt _).any
      | with_reducible exact (Meek.numberAt _).any
      | with_reducible exact (Meek.program).any
      | with_reducible refine Meek.bind (N := fun _ => True) ?_ fun _ _ => ?_
      | with_reducible refine Meek.ite (fun _ => ?_) (fun _ => ?_)
      | split
      | dsimp only
  · exact meek_stringOp _ _ _
  · have h' := h (.inl rfl)
    exact Meek.bind (meek_equalIn 10 _ _ _ _ h') fun _ _ => Meek.pure trivial
  · have h' := h (.inr rfl)
    exact Meek.bind (meek_equalIn 10 _ _ _ _ h') fun _ _ => Meek.pure trivial
  · repeat' first
      | with_reducible exact Meek.pure trivial
      | with_reducible exact Meek.stuck
      | with_reducible exact Meek.goPanic
      | with_reducible exact Meek.unsup (fun g h => by cases h)
      | with_reducible exact Meek.runtimePanic _
      | with_reducible exact Meek.boundsPanic _ _ _ _
      | with_reducible exact (meek_movedPointer _ _ _).any
      | with_reducible exact (meek_movedNumber _ _ _).any
      | with_reducible exact Meek.noRoom
      | with_reducible exact (Meek.choose _).any
      | with_reducible exact (Meek.load _ _).any
      | with_reducible exact (Meek.store _ _ _).any
      | with_reducible exact (meek_typeInfo _).any
      | with_reducible exact (meek_underlying _).any
      | with_reducible exact (meek_typeStr _).any
      | with_reducible exact (meek_zeroValue _).any
      | with_reducible exact (meek_sizeOf _).any
      | with_reducible exact (meek_isAgg _).any
      | with_reducible exact (meek_loadCells _ _).any
      | with_reducible exact (meek_storeCells _ _ _).any
      | with_reducible exact (meek_loadVar _ _).any
      | with_reducible exact (meek_storeVar _ _ _).any
      | with_reducible exact (meek_newRow _ _).any
      | with_reducible exact (meek_newVar _ _).any
      | with_reducible exact (meek_elemOf _).any
      | with_reducible exact (meek_part _ _ _).any
      | with_reducible exact (meek_asIntOf _).any
      | with_reducible exact (meek_asInt _).any
      | with_reducible exact (meek_asBool _).any
      | with_reducible exact (meek_asString _).any
      | with_reducible exact (meek_asAgg _).any
      | with_reducible exact (meek_asAddr _).any
      | with_reducible exact (meek_askRoom _).any
      | with_reducible exact (meek_behind _).any
      | with_reducible exact (meek_asNumber _ _).any
      | with_reducible exact (meek_noView _).any
      | with_reducible exact (meek_byteOf _).any
      | with_reducible exact (meek_fieldPlace _ _).any
      | with_reducible exact (Meek.viewAt _).any
      | with_reducible exact (Meek.numberAt _).any
      | with_reducible exact (Meek.program).any
      | with_reducible refine Meek.bind (N := fun _ => True) ?_ fun _ _ => ?_
      | with_reducible refine Meek.ite (fun _ => ?_) (fun _ => ?_)
      | split
      | dsimp only
  · repeat' first
      | with_reducible exact Meek.pure trivial
      | with_reducible exact Meek.stuck
      | with_reducible exact Meek.goPanic
      | with_reducible exact Meek.unsup (fun g h => by cases h)
      | with_reducible exact Meek.runtimePanic _
      | with_reducible exact Meek.boundsPanic _ _ _ _
      | with_reducible exact (meek_movedNumber _ _ _).any
      | with_reducible exact Meek.noRoom
      | with_reducible exact (Meek.choose _).any
      | with_reducible exact (Meek.load _ _).any
      | with_reducible exact (Meek.store _ _ _).any
      | with_reducible exact (meek_typeInfo _).any
      | with_reducible exact (meek_underlying _).any
      | with_reducible exact (meek_typeStr _).any
      | with_reducible exact (meek_zeroValue _).any
      | with_reducible exact (meek_sizeOf _).any
      | with_reducible exact (meek_isAgg _).any
      | with_reducible exact (meek_loadCells _ _).any
      | with_reducible exact (meek_storeCells _ _ _).any
      | with_reducible exact (meek_loadVar _ _).any
      | with_reducible exact (meek_storeVar _ _ _).any
      | with_reducible exact (meek_newRow _ _).any
      | with_reducible exact (meek_newVar _ _).any
      | with_reducible exact (meek_elemOf _).any
      | with_reducible exact (meek_part _ _ _).any
      | with_reducible exact (meek_asIntOf _).any
      | with_reducible exact (meek_asInt _).any
      | with_reducible exact (meek_asBool _).any
      | with_reducible exact (meek_asString _).any
      | with_reducible exact (meek_asAgg _).any
      | with_reducible exact (meek_asAddr _).any
      | with_reducible exact (meek_askRoom _).any
      | with_reducible exact (meek_behind _).any
      | with_reducible exact (meek_asNumber _ _).any
      | with_reducible exact (meek_noView _).any
      | with_reducible exact (meek_byteOf _).any
      | with_reducible exact (meek_fieldPlace _ _).any
      | with_reducible exact (Meek.viewAt _).any
      | with_reducible exact (Meek.numberAt _).any
      | with_reducible exact (Meek.program).any
      | with_reducible refine Meek.bind (N := fun _ => True) ?_ fun _ _ => ?_
      | with_reducible refine Meek.ite (fun _ => ?_) (fun _ => ?_)
      | split
      | dsimp only
  · repeat' first
      | with_reducible exact Meek.pure trivial
      | with_reducible exact Meek.stuck
      | with_reducible exact Meek.goPanic
      | with_reducible exact Meek.unsup (fun g h => by cases h)
      | with_reducible exact Meek.runtimePanic _
      | with_reducible exact Meek.boundsPanic _ _ _ _
      | with_reducible exact (meek_movedNumber _ _ _).any
      | with_reducible exact Meek.noRoom
      | with_reducible exact (Meek.choose _).any
      | with_reducible exact (Meek.load _ _).any
      | with_reducible exact (Meek.store _ _ _).any
      | with_reducible exact (meek_typeInfo _).any
      | with_reducible exact (meek_underlying _).any
      | with_reducible exact (meek_typeStr _).any
      | with_reducible exact (meek_zeroValue _).any
      | with_reducible exact (meek_sizeOf _).any
      | with_reducible exact (meek_isAgg _).any
      | with_reducible exact (meek_loadCells _ _).any
      | with_reducible exact (meek_storeCells _ _ _).any
      | with_reducible exact (meek_loadVar _ _).any
      | with_reducible exact (meek_storeVar _ _ _).any
      | with_reducible exact (meek_newRow _ _).any
      | with_reducible exact (meek_newVar _ _).any
      | with_reducible exact (meek_elemOf _).any
      | with_reducible exact (meek_part _ _ _).any
      | with_reducible exact (meek_asIntOf _).any
      | with_reducible exact (meek_asInt _).any
      | with_reducible exact (meek_asBool _).any
      | with_reducible exact (meek_asString _).any
      | with_reducible exact (meek_asAgg _).any
      | with_reducible exact (meek_asAddr _).any
      | with_reducible exact (meek_askRoom _).any
      | with_reducible exact (meek_behind _).any
      | with_reducible exact (meek_asNumber _ _).any
      | with_reducible exact (meek_noView _).any
      | with_reducible exact (meek_byteOf _).any
      | with_reducible exact (meek_fieldPlace _ _).any
      | with_reducible exact (Meek.viewAt _).any
      | with_reducible exact (Meek.numberAt _).any
      | with_reducible exact (Meek.program).any
      | with_reducible refine Meek.bind (N := fun _ => True) ?_ fun _ _ => ?_
      | with_reducible refine Meek.ite (fun _ => ?_) (fun _ => ?_)
      | split
      | dsimp only
  · repeat' first
      | with_reducible exact Meek.pure trivial
      | with_reducible exact Meek.stuck
      | with_reducible exact Meek.goPanic
      | with_reducible exact Meek.unsup (fun g h => by cases h)
      | with_reducible exact Meek.runtimePanic _
      | with_reducible exact Meek.boundsPanic _ _ _ _
      | with_reducible exact (meek_addrSub _ _ _).any
      | with_reducible exact Meek.noRoom
      | with_reducible exact (Meek.choose _).any
      | with_reducible exact (Meek.load _ _).any
      | with_reducible exact (Meek.store _ _ _).any
      | with_reducible exact (meek_typeInfo _).any
      | with_reducible exact (meek_underlying _).any
      | with_reducible exact (meek_typeStr _).any
      | with_reducible exact (meek_zeroValue _).any
      | with_reducible exact (meek_sizeOf _).any
      | with_reducible exact (meek_isAgg _).any
      | with_reducible exact (meek_loadCells _ _).any
      | with_reducible exact (meek_storeCells _ _ _).any
      | with_reducible exact (meek_loadVar _ _).any
      | with_reducible exact (meek_storeVar _ _ _).any
      | with_reducible exact (meek_newRow _ _).any
      | with_reducible exact (meek_newVar _ _).any
      | with_reducible exact (meek_elemOf _).any
      | with_reducible exact (meek_part _ _ _).any
      | with_reducible exact (meek_asIntOf _).any
      | with_reducible exact (meek_asInt _).any
      | with_reducible exact (meek_asBool _).any
      | with_reducible exact (meek_asString _).any
      | with_reducible exact (meek_asAgg _).any
      | with_reducible exact (meek_asAddr _).any
      | with_reducible exact (meek_askRoom _).any
      | with_reducible exact (meek_behind _).any
      | with_reducible exact (meek_asNumber _ _).any
      | with_reducible exact (meek_noView _).any
      | with_reducible exact (meek_byteOf _).any
      | with_reducible exact (meek_fieldPlace _ _).any
      | with_reducible exact (Meek.viewAt _).any
      | with_reducible exact (Meek.numberAt _).any
      | with_reducible exact (Meek.program).any
      | with_reducible refine Meek.bind (N := fun _ => True) ?_ fun _ _ => ?_
      | with_reducible refine Meek.ite (fun _ => ?_) (fun _ => ?_)
      | split
      | dsimp only
  · repeat' first
      | with_reducible exact Meek.pure trivial
      | with_reducible exact Meek.stuck
      | with_reducible exact Meek.goPanic
      | with_reducible exact Meek.unsup (fun g h => by cases h)
      | with_reducible exact Meek.runtimePanic _
      | with_reducible exact Meek.boundsPanic _ _ _ _
      | with_reducible exact (meek_addrCmp _ _ _).any
      | with_reducible exact Meek.noRoom
      | with_reducible exact (Meek.choose _).any
      | with_reducible exact (Meek.load _ _).any
      | with_reducible exact (Meek.store _ _ _).any
      | with_reducible exact (meek_typeInfo _).any
      | with_reducible exact (meek_underlying _).any
      | with_reducible exact (meek_typeStr _).any
      | with_reducible exact (meek_zeroValue _).any
      | with_reducible exact (meek_sizeOf _).any
      | with_reducible exact (meek_isAgg _).any
      | with_reducible exact (meek_loadCells _ _).any
      | with_reducible exact (meek_storeCells _ _ _).any
      | with_reducible exact (meek_loadVar _ _).any
      | with_reducible exact (meek_storeVar _ _ _).any
      | with_reducible exact (meek_newRow _ _).any
      | with_reducible exact (meek_newVar _ _).any
      | with_reducible exact (meek_elemOf _).any
      | with_reducible exact (meek_part _ _ _).any
      | with_reducible exact (meek_asIntOf _).any
      | with_reducible exact (meek_asInt _).any
      | with_reducible exact (meek_asBool _).any
      | with_reducible exact (meek_asString _).any
      | with_reducible exact (meek_asAgg _).any
      | with_reducible exact (meek_asAddr _).any
      | with_reducible exact (meek_askRoom _).any
      | with_reducible exact (meek_behind _).any
      | with_reducible exact (meek_asNumber _ _).any
      | with_reducible exact (meek_noView _).any
      | with_reducible exact (meek_byteOf _).any
      | with_reducible exact (meek_fieldPlace _ _).any
      | with_reducible exact (Meek.viewAt _).any
      | with_reducible exact (Meek.numberAt _).any
      | with_reducible exact (Meek.program).any
      | with_reducible refine Meek.bind (N := fun _ => True) ?_ fun _ _ => ?_
      | with_reducible refine Meek.ite (fun _ => ?_) (fun _ => ?_)
      | split
      | dsimp only
  · repeat' first
      | with_reducible exact Meek.pure trivial
      | with_reducible exact Meek.stuck
      | with_reducible exact Meek.goPanic
      | with_reducible exact Meek.unsup (fun g h => by cases h)
      | with_reducible exact Meek.runtimePanic _
      | with_reducible exact Meek.boundsPanic _ _ _ _
      | with_reducible exact (meek_addrCmp _ _ _).any
      | with_reducible exact Meek.noRoom
      | with_reducible exact (Meek.choose _).any
      | with_reducible exact (Meek.load _ _).any
      | with_reducible exact (Meek.store _ _ _).any
      | with_reducible exact (meek_typeInfo _).any
      | with_reducible exact (meek_underlying _).any
      | with_reducible exact (meek_typeStr _).any
      | with_reducible exact (meek_zeroValue _).any
      | with_reducible exact (meek_sizeOf _).any
      | with_reducible exact (meek_isAgg _).any
      | with_reducible exact (meek_loadCells _ _).any
      | with_reducible exact (meek_storeCells _ _ _).any
      | with_reducible exact (meek_loadVar _ _).any
      | with_reducible exact (meek_storeVar _ _ _).any
      | with_reducible exact (meek_newRow _ _).any
      | with_reducible exact (meek_newVar _ _).any
      | with_reducible exact (meek_elemOf _).any
      | with_reducible exact (meek_part _ _ _).any
      | with_reducible exact (meek_asIntOf _).any
      | with_reducible exact (meek_asInt _).any
      | with_reducible exact (meek_asBool _).any
      | with_reducible exact (meek_asString _).any
      | with_reducible exact (meek_asAgg _).any
      | with_reducible exact (meek_asAddr _).any
      | with_reducible exact (meek_askRoom _).any
      | with_reducible exact (meek_behind _).any
      | with_reducible exact (meek_asNumber _ _).any
      | with_reducible exact (meek_noView _).any
      | with_reducible exact (meek_byteOf _).any
      | with_reducible exact (meek_fieldPlace _ _).any
      | with_reducible exact (Meek.viewAt _).any
      | with_reducible exact (Meek.numberAt _).any
      | with_reducible exact (Meek.program).any
      | with_reducible refine Meek.bind (N := fun _ => True) ?_ fun _ _ => ?_
      | with_reducible refine Meek.ite (fun _ => ?_) (fun _ => ?_)
      | split
      | dsimp only
  · repeat' first
      | with_reducible exact Meek.pure trivial
      | with_reducible exact Meek.stuck
      | with_reducible exact Meek.goPanic
      | with_reducible exact Meek.unsup (fun g h => by cases h)
      | with_reducible exact Meek.runtimePanic _
      | with_reducible exact Meek.boundsPanic _ _ _ _
      | with_reducible exact (meek_addrCmp _ _ _).any
      | with_reducible exact Meek.noRoom
      | with_reducible exact (Meek.choose _).any
      | with_reducible exact (Meek.load _ _).any
      | with_reducible exact (Meek.store _ _ _).any
      | with_reducible exact (meek_typeInfo _).any
      | with_reducible exact (meek_underlying _).any
      | with_reducible exact (meek_typeStr _).any
      | with_reducible exact (meek_zeroValue _).any
      | with_reducible exact (meek_sizeOf _).any
      | with_reducible exact (meek_isAgg _).any
      | with_reducible exact (meek_loadCells _ _).any
      | with_reducible exact (meek_storeCells _ _ _).any
      | with_reducible exact (meek_loadVar _ _).any
      | with_reducible exact (meek_storeVar _ _ _).any
      | with_reducible exact (meek_newRow _ _).any
      | with_reducible exact (meek_newVar _ _).any
      | with_reducible exact (meek_elemOf _).any
      | with_reducible exact (meek_part _ _ _).any
      | with_reducible exact (meek_asIntOf _).any
      | with_reducible exact (meek_asInt _).any
      | with_reducible exact (meek_asBool _).any
      | with_reducible exact (meek_asString _).any
      | with_reducible exact (meek_asAgg _).any
      | with_reducible exact (meek_asAddr _).any
      | with_reducible exact (meek_askRoom _).any
      | with_reducible exact (meek_behind _).any
      | with_reducible exact (meek_asNumber _ _).any
      | with_reducible exact (meek_noView _).any
      | with_reducible exact (meek_byteOf _).any
      | with_reducible exact (meek_fieldPlace _ _).any
      | with_reducible exact (Meek.viewAt _).any
      | with_reducible exact (Meek.numberAt _).any
      | with_reducible exact (Meek.program).any
      | with_reducible refine Meek.bind (N := fun _ => True) ?_ fun _ _ => ?_
      | with_reducible refine Meek.ite (fun _ => ?_) (fun _ => ?_)
      | split
      | dsimp only
  · repeat' first
      | with_reducible exact Meek.pure trivial
      | with_reducible exact Meek.stuck
      | with_reducible exact Meek.goPanic
      | with_reducible exact Meek.unsup (fun g h => by cases h)
      | with_reducible exact Meek.runtimePanic _
      | with_reducible exact Meek.boundsPanic _ _ _ _
      | with_reducible exact (meek_addrCmp _ _ _).any
      | with_reducible exact Meek.noRoom
      | with_reducible exact (Meek.choose _).any
      | with_reducible exact (Meek.load _ _).any
      | with_reducible exact (Meek.store _ _ _).any
      | with_reducible exact (meek_typeInfo _).any
      | with_reducible exact (meek_underlying _).any
      | with_reducible exact (meek_typeStr _).any
      | with_reducible exact (meek_zeroValue _).any
      | with_reducible exact (meek_sizeOf _).any
      | with_reducible exact (meek_isAgg _).any
      | with_reducible exact (meek_loadCells _ _).any
      | with_reducible exact (meek_storeCells _ _ _).any
      | with_reducible exact (meek_loadVar _ _).any
      | with_reducible exact (meek_storeVar _ _ _).any
      | with_reducible exact (meek_newRow _ _).any
      | with_reducible exact (meek_newVar _ _).any
      | with_reducible exact (meek_elemOf _).any
      | with_reducible exact (meek_part _ _ _).any
      | with_reducible exact (meek_asIntOf _).any
      | with_reducible exact (meek_asInt _).any
      | with_reducible exact (meek_asBool _).any
      | with_reducible exact (meek_asString _).any
      | with_reducible exact (meek_asAgg _).any
      | with_reducible exact (meek_asAddr _).any
      | with_reducible exact (meek_askRoom _).any
      | with_reducible exact (meek_behind _).any
      | with_reducible exact (meek_asNumber _ _).any
      | with_reducible exact (meek_noView _).any
      | with_reducible exact (meek_byteOf _).any
      | with_reducible exact (meek_fieldPlace _ _).any
      | with_reducible exact (Meek.viewAt _).any
      | with_reducible exact (Meek.numberAt _).any
      | with_reducible exact (Meek.program).any
      | with_reducible refine Meek.bind (N := fun _ => True) ?_ fun _ _ => ?_
      | with_reducible refine Meek.ite (fun _ => ?_) (fun _ => ?_)
      | split
      | dsimp only
  · repeat' first
      | with_reducible exact Meek.pure trivial
      | with_reducible exact Meek.stuck
      | with_reducible exact Meek.goPanic
      | with_reducible exact Meek.unsup (fun g h => by cases h)
      | with_reducible exact Meek.runtimePanic _
      | with_reducible exact Meek.boundsPanic _ _ _ _
      | with_reducible exact (meek_addrMod _ _ _).any
      | with_reducible exact Meek.noRoom
      | with_reducible exact (Meek.choose _).any
      | with_reducible exact (Meek.load _ _).any
      | with_reducible exact (Meek.store _ _ _).any
      | with_reducible exact (meek_typeInfo _).any
      | with_reducible exact (meek_underlying _).any
      | with_reducible exact (meek_typeStr _).any
      | with_reducible exact (meek_zeroValue _).any
      | with_reducible exact (meek_sizeOf _).any
      | with_reducible exact (meek_isAgg _).any
      | with_reducible exact (meek_loadCells _ _).any
      | with_reducible exact (meek_storeCells _ _ _).any
      | with_reducible exact (meek_loadVar _ _).any
      | with_reducible exact (meek_storeVar _ _ _).any
      | with_reducible exact (meek_newRow _ _).any
      | with_reducible exact (meek_newVar _ _).any
      | with_reducible exact (meek_elemOf _).any
      | with_reducible exact (meek_part _ _ _).any
      | with_reducible exact (meek_asIntOf _).any
      | with_reducible exact (meek_asInt _).any
      | with_reducible exact (meek_asBool _).any
      | with_reducible exact (meek_asString _).any
      | with_reducible exact (meek_asAgg _).any
      | with_reducible exact (meek_asAddr _).any
      | with_reducible exact (meek_askRoom _).any
      | with_reducible exact (meek_behind _).any
      | with_reducible exact (meek_asNumber _ _).any
      | with_reducible exact (meek_noView _).any
      | with_reducible exact (meek_byteOf _).any
      | with_reducible exact (meek_fieldPlace _ _).any
      | with_reducible exact (Meek.viewAt _).any
      | with_reducible exact (Meek.numberAt _).any
      | with_reducible exact (Meek.program).any
      | with_reducible refine Meek.bind (N := fun _ => True) ?_ fun _ _ => ?_
      | with_reducible refine Meek.ite (fun _ => ?_) (fun _ => ?_)
      | split
      | dsimp only
  · repeat' first
      | with_reducible exact Meek.pure trivial
      | with_reducible exact Meek.stuck
      | with_reducible exact Meek.goPanic
      | with_reducible exact Meek.unsup (fun g h => by cases h)
      | with_reducible exact Meek.runtimePanic _
      | with_reducible exact Meek.boundsPanic _ _ _ _
      | with_reducible exact (meek_addrMod _ _ _).any
      | with_reducible exact Meek.noRoom
      | with_reducible exact (Meek.choose _).any
      | with_reducible exact (Meek.load _ _).any
      | with_reducible exact (Meek.store _ _ _).any
      | with_reducible exact (meek_typeInfo _).any
      | with_reducible exact (meek_underlying _).any
      | with_reducible exact (meek_typeStr _).any
      | with_reducible exact (meek_zeroValue _).any
      | with_reducible exact (meek_sizeOf _).any
      | with_reducible exact (meek_isAgg _).any
      | with_reducible exact (meek_loadCells _ _).any
      | with_reducible exact (meek_storeCells _ _ _).any
      | with_reducible exact (meek_loadVar _ _).any
      | with_reducible exact (meek_storeVar _ _ _).any
      | with_reducible exact (meek_newRow _ _).any
      | with_reducible exact (meek_newVar _ _).any
      | with_reducible exact (meek_elemOf _).any
      | with_reducible exact (meek_part _ _ _).any
      | with_reducible exact (meek_asIntOf _).any
      | with_reducible exact (meek_asInt _).any
      | with_reducible exact (meek_asBool _).any
      | with_reducible exact (meek_asString _).any
      | with_reducible exact (meek_asAgg _).any
      | with_reducible exact (meek_asAddr _).any
      | with_reducible exact (meek_askRoom _).any
      | with_reducible exact (meek_behind _).any
      | with_reducible exact (meek_asNumber _ _).any
      | with_reducible exact (meek_noView _).any
      | with_reducible exact (meek_byteOf _).any
      | with_reducible exact (meek_fieldPlace _ _).any
      | with_reducible exact (Meek.viewAt _).any
      | with_reducible exact (Meek.numberAt _).any
      | with_reducible exact (Meek.program).any
      | with_reducible refine Meek.bind (N := fun _ => True) ?_ fun _ _ => ?_
      | with_reducible refine Meek.ite (fun _ => ?_) (fun _ => ?_)
      | split
      | dsimp only
  · repeat' first
      | with_reducible exact Meek.pure trivial
      | with_reducible exact Meek.stuck
      | with_reducible exact Meek.goPanic
      | with_reducible exact Meek.unsup (fun g h => by cases h)
      | with_reducible exact Meek.runtimePanic _
      | with_reducible exact Meek.boundsPanic _ _ _ _
      | with_reducible exact (meek_addrMod _ _ _).any
      | with_reducible exact Meek.noRoom
      | with_reducible exact (Meek.choose _).any
      | with_reducible exact (Meek.load _ _).any
      | with_reducible exact (Meek.store _ _ _).any
      | with_reducible exact (meek_typeInfo _).any
      | with_reducible exact (meek_underlying _).any
      | with_reducible exact (meek_typeStr _).any
      | with_reducible exact (meek_zeroValue _).any
      | with_reducible exact (meek_sizeOf _).any
      | with_reducible exact (meek_isAgg _).any
      | with_reducible exact (meek_loadCells _ _).any
      | with_reducible exact (meek_storeCells _ _ _).any
      | with_reducible exact (meek_loadVar _ _).any
      | with_reducible exact (meek_storeVar _ _ _).any
      | with_reducible exact (meek_newRow _ _).any
      | with_reducible exact (meek_newVar _ _).any
      | with_reducible exact (meek_elemOf _).any
      | with_reducible exact (meek_part _ _ _).any
      | with_reducible exact (meek_asIntOf _).any
      | with_reducible exact (meek_asInt _).any
      | with_reducible exact (meek_asBool _).any
      | with_reducible exact (meek_asString _).any
      | with_reducible exact (meek_asAgg _).any
      | with_reducible exact (meek_asAddr _).any
      | with_reducible exact (meek_askRoom _).any
      | with_reducible exact (meek_behind _).any
      | with_reducible exact (meek_asNumber _ _).any
      | with_reducible exact (meek_noView _).any
      | with_reducible exact (meek_byteOf _).any
      | with_reducible exact (meek_fieldPlace _ _).any
      | with_reducible exact (Meek.viewAt _).any
      | with_reducible exact (Meek.numberAt _).any
      | with_reducible exact (Meek.program).any
      | with_reducible refine Meek.bind (N := fun _ => True) ?_ fun _ _ => ?_
      | with_reducible refine Meek.ite (fun _ => ?_) (fun _ => ?_)
      | split
      | dsimp only
  · exact Meek.unsup (fun g h => by cases h)
  · exact Meek.unsup (fun g h => by cases h)
  · exact Meek.stuck
theorem meek_floatToInt (k x d) : Meek P q Z C (fun _ => True) (Conv.floatToInt k x d) := by
  unfold Conv.floatToInt
  repeat' first
    | with_reducible exact Meek.pure trivial
    | with_reducible exact Meek.stuck
    | with_reducible exact Meek.goPanic
    | with_reducible exact Meek.unsup (fun g h => by cases h)
    | with_reducible exact Meek.runtimePanic _
    | with_reducible exact Meek.boundsPanic _ _ _ _
    | with_reducible exact Meek.noRoom
    | with_reducible exact (Meek.choose _).any
    | with_reducible exact (Meek.load _ _).any
    | with_reducible exact (Meek.store _ _ _).any
    | with_reducible exact (meek_typeInfo _).any
    | with_reducible exact (meek_underlying _).any
    | with_reducible exact (meek_typeStr _).any
    | with_reducible exact (meek_zeroValue _).any
    | with_reducible exact (meek_sizeOf _).any
    | with_reducible exact (meek_isAgg _).any
    | with_reducible exact (meek_loadCells _ _).any
    | with_reducible exact (meek_storeCells _ _ _).any
    | with_reducible exact (meek_loadVar _ _).any
    | with_reducible exact (meek_storeVar _ _ _).any
    | with_reducible exact (meek_newRow _ _).any
    | with_reducible exact (meek_newVar _ _).any
    | with_reducible exact (meek_elemOf _).any
    | with_reducible exact (meek_part _ _ _).any
    | with_reducible exact (meek_asIntOf _).any
    | with_reducible exact (meek_asInt _).any
    | with_reducible exact (meek_asBool _).any
    | with_reducible exact (meek_asString _).any
    | with_reducible exact (meek_asAgg _).any
    | with_reducible exact (meek_asAddr _).any
    | with_reducible exact (meek_askRoom _).any
    | with_reducible exact (meek_behind _).any
    | with_reducible exact (meek_asNumber _ _).any
    | with_reducible exact (meek_noView _).any
    | with_reducible exact (meek_byteOf _).any
    | with_reducible exact (meek_fieldPlace _ _).any
    | with_reducible exact (Meek.viewAt _).any
    | with_reducible exact (Meek.numberAt _).any
    | with_reducible exact (Meek.program).any
    | with_reducible refine Meek.bind (N := fun _ => True) ?_ fun _ _ => ?_
    | with_reducible refine Meek.ite (fun _ => ?_) (fun _ => ?_)
    | split
    | dsimp only

/-- A conversion between integers, or of bytes to a string. -/
def niceConv (P : Program) (src dst : TypeId) : Bool :=
  match P.underlying src, P.underlying dst with
  | some (.int _), some (.int _) => true
  | some (.slice e), some .string => match P.underlying e with | some (.int .u8) => true | _ => false
  | _, _ => false
theorem meek_convert (src dst x) (h : niceConv P src dst = true) : Meek P q Z C (fun _ => True) (convert src dst x) := by
  unfold convert
  refine Meek.bind (meek_underlying src) fun s hs => Meek.bind (meek_underlying dst) fun d hd => ?_
  unfold niceConv at h
  rw [hs, hd] at h
  have hk : (∃ k j, s = .int k ∧ d = .int j) ∨ (∃ e, s = .slice e ∧ d = .string ∧ P.underlying e = some (.int .u8)) := by
    split at h
    · rename_i a b; exact .inl ⟨_, _, Option.some.inj a, Option.some.inj b⟩
    · rename_i a b; split at h
      · exact .inr ⟨_, Option.some.inj a, Option.some.inj b, by assumption⟩
      · cases h
    · cases h
  rcases hk with ⟨k, j, rfl, rfl⟩ | ⟨e, rfl, rfl, he⟩
  · cases x with
    | int k n => unfold Conv.intToInt; exact Meek.pure trivial
    | float s b => exact meek_floatToInt _ _ _
    | pointer p => cases p <;> exact Meek.unsup (fun g h => by cases h)
    | _ => exact Meek.unsup (fun g h => by cases h)
  · have hb : ∀ y, Meek P q Z C (fun _ => True) (Conv.bytesToString y) := meek_bytesToString
    cases x with
    | int k n => unfold Conv.intToString; exact Meek.pure trivial
    | string s => exact Meek.pure trivial
    | slice a n c =>
      cases a <;>
      · refine Meek.bind (s := underlying e) (meek_underlying e) fun u hu => ?_
        rw [he] at hu
        cases hu
        exact hb _
    | _ =>
      refine Meek.bind (s := underlying e) (meek_underlying e) fun u hu => ?_
      rw [he] at hu
      cases hu
      exact hb _

/-! ### methods -/
theorem meek_wrapNilChk (a t l) : Meek P q Z C (fun _ => True) (Builtin.ssaWrapNilChk_ a t l) := by
  unfold Builtin.ssaWrapNilChk_
  have stuckIt : Meek P q Z C (fun _ => True) (stuck "ssa:wrapnilchk: a pointer and two strings expected" : Sem Value) := Meek.stuck
  obtain ⟨l⟩ := l
  rcases l with _ | ⟨v, _ | ⟨v', _ | ⟨v2, _ | ⟨v3, r⟩⟩⟩⟩ <;> (try exact stuckIt)
  cases v' <;> (try exact stuckIt)
  cases v2 <;> (try exact stuckIt)
  cases v with
  | pointer p =>
    cases p with
    | some a => exact Meek.pure trivial
    | none =>
      refine Meek.bind (s := choose (.extern "ssa:wrapnilchk.dereferenced" 2)) (Meek.choose _) fun n _ => ?_
      repeat' first
        | with_reducible exact Meek.pure trivial
        | with_reducible exact Meek.stuck
        | with_reducible exact Meek.goPanic
        | with_reducible exact Meek.unsup (fun g h => by cases h)
        | with_reducible exact Meek.runtimePanic _
        | with_reducible exact Meek.boundsPanic _ _ _ _
        | with_reducible exact Meek.noRoom
        | with_reducible exact (Meek.choose _).any
        | with_reducible exact (Meek.load _ _).any
        | with_reducible exact (Meek.store _ _ _).any
        | with_reducible exact (meek_typeInfo _).any
        | with_reducible exact (meek_underlying _).any
        | with_reducible exact (meek_typeStr _).any
        | with_reducible exact (meek_zeroValue _).any
        | with_reducible exact (meek_sizeOf _).any
        | with_reducible exact (meek_isAgg _).any
        | with_reducible exact (meek_loadCells _ _).any
        | with_reducible exact (meek_storeCells _ _ _).any
        | with_reducible exact (meek_loadVar _ _).any
        | with_reducible exact (meek_storeVar _ _ _).any
        | with_reducible exact (meek_newRow _ _).any
        | with_reducible exact (meek_newVar _ _).any
        | with_reducible exact (meek_elemOf _).any
        | with_reducible exact (meek_part _ _ _).any
        | with_reducible exact (meek_asIntOf _).any
        | with_reducible exact (meek_asInt _).any
        | with_reducible exact (meek_asBool _).any
        | with_reducible exact (meek_asString _).any
        | with_reducible exact (meek_asAgg _).any
        | with_reducible exact (meek_asAddr _).any
        | with_reducible exact (meek_askRoom _).any
        | with_reducible exact (meek_behind _).any
        | with_reducible exact (meek_asNumber _ _).any
        | with_reducible exact (meek_noView _).any
        | with_reducible exact (meek_byteOf _).any
        | with_reducible exact (meek_fieldPlace _ _).any
        | with_reducible exact (Meek.viewAt _).any
        | with_reducible exact (Meek.numberAt _).any
        | with_reducible exact (Meek.program).any
        | with_reducible refine Meek.bind (N := fun _ => True) ?_ fun _ _ => ?_
        | with_reducible refine Meek.ite (fun _ => ?_) (fun _ => ?_)
        | split
        | dsimp only
  | _ => exact Meek.stuck
theorem meek_get (t x) : Meek P q Z C (fun _ => True) (Place.get t x) := by
  unfold Place.get
  repeat' first
    | with_reducible exact Meek.pure trivial
    | with_reducible exact Meek.stuck
    | with_reducible exact Meek.goPanic
    | with_reducible exact Meek.unsup (fun g h => by cases h)
    | with_reducible exact Meek.runtimePanic _
    | with_reducible exact Meek.boundsPanic _ _ _ _
    | with_reducible exact Meek.noRoom
    | with_reducible exact (Meek.choose _).any
    | with_reducible exact (Meek.load _ _).any
    | with_reducible exact (Meek.store _ _ _).any
    | with_reducible exact (meek_typeInfo _).any
    | with_reducible exact (meek_underlying _).any
    | with_reducible exact (meek_typeStr _).any
    | with_reducible exact (meek_zeroValue _).any
    | with_reducible exact (meek_sizeOf _).any
    | with_reducible exact (meek_isAgg _).any
    | with_reducible exact (meek_loadCells _ _).any
    | with_reducible exact (meek_storeCells _ _ _).any
    | with_reducible exact (meek_loadVar _ _).any
    | with_reducible exact (meek_storeVar _ _ _).any
    | with_reducible exact (meek_newRow _ _).any
    | with_reducible exact (meek_newVar _ _).any
    | with_reducible exact (meek_elemOf _).any
    | with_reducible exact (meek_part _ _ _).any
    | with_reducible exact (meek_asIntOf _).any
    | with_reducible exact (meek_asInt _).any
    | with_reducible exact (meek_asBool _).any
    | with_reducible exact (meek_asString _).any
    | with_reducible exact (meek_asAgg _).any
    | with_reducible exact (meek_asAddr _).any
    | with_reducible exact (meek_askRoom _).any
    | with_reducible exact (meek_behind _).any
    | with_reducible exact (meek_asNumber _ _).any
    | with_reducible exact (meek_noView _).any
    | with_reducible exact (meek_byteOf _).any
    | with_reducible exact (meek_fieldPlace _ _).any
    | with_reducible exact (Meek.viewAt _).any
    | with_reducible exact (Meek.numberAt _).any
    | with_reducible exact (Meek.program).any
    | with_reducible refine Meek.bind (N := fun _ => True) ?_ fun _ _ => ?_
    | with_reducible refine Meek.ite (fun _ => ?_) (fun _ => ?_)
    | split
    | dsimp only
theorem meek_follow : ∀ (l : List FieldStep) (t : TypeId) (x : Place), Meek P q Z C (fun _ => True) (follow l t x)
  | [], t, x => Meek.pure trivial
  | s :: r, t, x => by
    unfold follow
    repeat' first
      | with_reducible exact Meek.pure trivial
      | with_reducible exact Meek.stuck
      | with_reducible exact Meek.goPanic
      | with_reducible exact Meek.unsup (fun g h => by cases h)
      | with_reducible exact Meek.runtimePanic _
      | with_reducible exact Meek.boundsPanic _ _ _ _
      | with_reducible exact (meek_get _ _).any
      | with_reducible exact (meek_follow r _ _).any
      | with_reducible exact Meek.noRoom
      | with_reducible exact (Meek.choose _).any
      | with_reducible exact (Meek.load _ _).any
      | with_reducible exact (Meek.store _ _ _).any
      | with_reducible exact (meek_typeInfo _).any
      | with_reducible exact (meek_underlying _).any
      | with_reducible exact (meek_typeStr _).any
      | with_reducible exact (meek_zeroValue _).any
      | with_reducible exact (meek_sizeOf _).any
      | with_reducible exact (meek_isAgg _).any
      | with_reducible exact (meek_loadCells _ _).any
      | with_reducible exact (meek_storeCells _ _ _).any
      | with_reducible exact (meek_loadVar _ _).any
      | with_reducible exact (meek_storeVar _ _ _).any
      | with_reducible exact (meek_newRow _ _).any
      | with_reducible exact (meek_newVar _ _).any
      | with_reducible exact (meek_elemOf _).any
      | with_reducible exact (meek_part _ _ _).any
      | with_reducible exact (meek_asIntOf _).any
      | with_reducible exact (meek_asInt _).any
      | with_reducible exact (meek_asBool _).any
      | with_reducible exact (meek_asString _).any
      | with_reducible exact (meek_asAgg _).any
      | with_reducible exact (meek_asAddr _).any
      | with_reducible exact (meek_askRoom _).any
      | with_reducible exact (meek_behind _).any
      | with_reducible exact (meek_asNumber _ _).any
      | with_reducible exact (meek_noView _).any
      | with_reducible exact (meek_byteOf _).any
      | with_reducible exact (meek_fieldPlace _ _).any
      | with_reducible exact (Meek.viewAt _).any
      | with_reducible exact (Meek.numberAt _).any
      | with_reducible exact (Meek.program).any
      | with_reducible refine Meek.bind (N := fun _ => True) ?_ fun _ _ => ?_
      | with_reducible refine Meek.ite (fun _ => ?_) (fun _ => ?_)
      | split
      | dsimp only
theorem meek_receiverAt (t x b w) : Meek P q Z C (fun _ => True) (receiverAt t x b w) := by
  unfold receiverAt
  repeat' first
    | with_reducible exact Meek.pure trivial
    | with_reducible exact Meek.stuck
    | with_reducible exact Meek.goPanic
    | with_reducible exact Meek.unsup (fun g h => by cases h)
    | with_reducible exact Meek.runtimePanic _
    | with_reducible exact Meek.boundsPanic _ _ _ _
    | with_reducible exact (meek_get _ _).any
    | with_reducible exact (meek_wrapNilChk _ _ _).any
    | with_reducible exact Meek.noRoom
    | with_reducible exact (Meek.choose _).any
    | with_reducible exact (Meek.load _ _).any
    | with_reducible exact (Meek.store _ _ _).any
    | with_reducible exact (meek_typeInfo _).any
    | with_reducible exact (meek_underlying _).any
    | with_reducible exact (meek_typeStr _).any
    | with_reducible exact (meek_zeroValue _).any
    | with_reducible exact (meek_sizeOf _).any
    | with_reducible exact (meek_isAgg _).any
    | with_reducible exact (meek_loadCells _ _).any
    | with_reducible exact (meek_storeCells _ _ _).any
    | with_reducible exact (meek_loadVar _ _).any
    | with_reducible exact (meek_storeVar _ _ _).any
    | with_reducible exact (meek_newRow _ _).any
    | with_reducible exact (meek_newVar _ _).any
    | with_reducible exact (meek_elemOf _).any
    | with_reducible exact (meek_part _ _ _).any
    | with_reducible exact (meek_asIntOf _).any
    | with_reducible exact (meek_asInt _).any
    | with_reducible exact (meek_asBool _).any
    | with_reducible exact (meek_asString _).any
    | with_reducible exact (meek_asAgg _).any
    | with_reducible exact (meek_asAddr _).any
    | with_reducible exact (meek_askRoom _).any
    | with_reducible exact (meek_behind _).any
    | with_reducible exact (meek_asNumber _ _).any
    | with_reducible exact (meek_noView _).any
    | with_reducible exact (meek_byteOf _).any
    | with_reducible exact (meek_fieldPlace _ _).any
    | with_reducible exact (Meek.viewAt _).any
    | with_reducible exact (Meek.numberAt _).any
    | with_reducible exact (Meek.program).any
    | with_reducible refine Meek.bind (N := fun _ => True) ?_ fun _ _ => ?_
    | with_reducible refine Meek.ite (fun _ => ?_) (fun _ => ?_)
    | split
    | dsimp only
theorem meek_receiverVia (t v p b) : Meek P q Z C (fun _ => True) (receiverVia t v p b) := by
  unfold receiverVia
  repeat' first
    | with_reducible exact Meek.pure trivial
    | with_reducible exact Meek.stuck
    | with_reducible exact Meek.goPanic
    | with_reducible exact Meek.unsup (fun g h => by cases h)
    | with_reducible exact Meek.runtimePanic _
    | with_reducible exact Meek.boundsPanic _ _ _ _
    | with_reducible exact (meek_follow _ _ _).any
    | with_reducible exact (meek_receiverAt _ _ _ _).any
    | with_reducible exact Meek.noRoom
    | with_reducible exact (Meek.choose _).any
    | with_reducible exact (Meek.load _ _).any
    | with_reducible exact (Meek.store _ _ _).any
    | with_reducible exact (meek_typeInfo _).any
    | with_reducible exact (meek_underlying _).any
    | with_reducible exact (meek_typeStr _).any
    | with_reducible exact (meek_zeroValue _).any
    | with_reducible exact (meek_sizeOf _).any
    | with_reducible exact (meek_isAgg _).any
    | with_reducible exact (meek_loadCells _ _).any
    | with_reducible exact (meek_storeCells _ _ _).any
    | with_reducible exact (meek_loadVar _ _).any
    | with_reducible exact (meek_storeVar _ _ _).any
    | with_reducible exact (meek_newRow _ _).any
    | with_reducible exact (meek_newVar _ _).any
    | with_reducible exact (meek_elemOf _).any
    | with_reducible exact (meek_part _ _ _).any
    | with_reducible exact (meek_asIntOf _).any
    | with_reducible exact (meek_asInt _).any
    | with_reducible exact (meek_asBool _).any
    | with_reducible exact (meek_asString _).any
    | with_reducible exact (meek_asAgg _).any
    | with_reducible exact (meek_asAddr _).any
    | with_reducible exact (meek_askRoom _).any
    | with_reducible exact (meek_behind _).any
    | with_reducible exact (meek_asNumber _ _).any
    | with_reducible exact (meek_noView _).any
    | with_reducible exact (meek_byteOf _).any
    | with_reducible exact (meek_fieldPlace _ _).any
    | with_reducible exact (Meek.viewAt _).any
    | with_reducible exact (Meek.numberAt _).any
    | with_reducible exact (Meek.program).any
    | with_reducible refine Meek.bind (N := fun _ => True) ?_ fun _ _ => ?_
    | with_reducible refine Meek.ite (fun _ => ?_) (fun _ => ?_)
    | split
    | dsimp only
theorem meek_method : ∀ (n : Nat) (t : TypeId) (v : Value) (s : String), Meek P q Z C (fun _ => True) (method n t v s)
  | 0, _, _, _ => Meek.unsup (fun g h => by cases h)
  | n + 1, t, v, s => by
    unfold method
    repeat' first
      | with_reducible exact Meek.pure trivial
      | with_reducible exact Meek.stuck
      | with_reducible exact Meek.goPanic
      | with_reducible exact Meek.unsup (fun g h => by cases h)
      | with_reducible exact Meek.runtimePanic _
      | with_reducible exact Meek.boundsPanic _ _ _ _
      | with_reducible exact (meek_follow _ _ _).any
      | with_reducible exact (meek_receiverAt _ _ _ _).any
      | with_reducible exact (meek_get _ _).any
      | with_reducible exact (meek_method n _ _ _).any
      | with_reducible exact Meek.noRoom
      | with_reducible exact (Meek.choose _).any
      | with_reducible exact (Meek.load _ _).any
      | with_reducible exact (Meek.store _ _ _).any
      | with_reducible exact (meek_typeInfo _).any
      | with_reducible exact (meek_underlying _).any
      | with_reducible exact (meek_typeStr _).any
      | with_reducible exact (meek_zeroValue _).any
      | with_reducible exact (meek_sizeOf _).any
      | with_reducible exact (meek_isAgg _).any
      | with_reducible exact (meek_loadCells _ _).any
      | with_reducible exact (meek_storeCells _ _ _).any
      | with_reducible exact (meek_loadVar _ _).any
      | with_reducible exact (meek_storeVar _ _ _).any
      | with_reducible exact (meek_newRow _ _).any
      | with_reducible exact (meek_newVar _ _).any
      | with_reducible exact (meek_elemOf _).any
      | with_reducible exact (meek_part _ _ _).any
      | with_reducible exact (meek_asIntOf _).any
      | with_reducible exact (meek_asInt _).any
      | with_reducible exact (meek_asBool _).any
      | with_reducible exact (meek_asString _).any
      | with_reducible exact (meek_asAgg _).any
      | with_reducible exact (meek_asAddr _).any
      | with_reducible exact (meek_askRoom _).any
      | with_reducible exact (meek_behind _).any
      | with_reducible exact (meek_asNumber _ _).any
      | with_reducible exact (meek_noView _).any
      | with_reducible exact (meek_byteOf _).any
      | with_reducible exact (meek_fieldPlace _ _).any
      | with_reducible exact (Meek.viewAt _).any
      | with_reducible exact (Meek.numberAt _).any
      | with_reducible exact (Meek.program).any
      | with_reducible refine Meek.bind (N := fun _ => True) ?_ fun _ _ => ?_
      | with_reducible refine Meek.ite (fun _ => ?_) (fun _ => ?_)
      | split
      | dsimp only
theorem meek_followBlind : ∀ (l : List FieldStep) (t : TypeId) (x : Option Value), Meek P q Z C (fun _ => True) (followBlind l t x)
  | [], t, x => Meek.pure trivial
  | s :: r, t, x => by
    unfold followBlind
    repeat' first
      | with_reducible exact Meek.pure trivial
      | with_reducible exact Meek.stuck
      | with_reducible exact Meek.goPanic
      | with_reducible exact Meek.unsup (fun g h => by cases h)
      | with_reducible exact Meek.runtimePanic _
      | with_reducible exact Meek.boundsPanic _ _ _ _
      | with_reducible exact (meek_followBlind r _ _).any
      | with_reducible exact Meek.noRoom
      | with_reducible exact (Meek.choose _).any
      | with_reducible exact (Meek.load _ _).any
      | with_reducible exact (Meek.store _ _ _).any
      | with_reducible exact (meek_typeInfo _).any
      | with_reducible exact (meek_underlying _).any
      | with_reducible exact (meek_typeStr _).any
      | with_reducible exact (meek_zeroValue _).any
      | with_reducible exact (meek_sizeOf _).any
      | with_reducible exact (meek_isAgg _).any
      | with_reducible exact (meek_loadCells _ _).any
      | with_reducible exact (meek_storeCells _ _ _).any
      | with_reducible exact (meek_loadVar _ _).any
      | with_reducible exact (meek_storeVar _ _ _).any
      | with_reducible exact (meek_newRow _ _).any
      | with_reducible exact (meek_newVar _ _).any
      | with_reducible exact (meek_elemOf _).any
      | with_reducible exact (meek_part _ _ _).any
      | with_reducible exact (meek_asIntOf _).any
      | with_reducible exact (meek_asInt _).any
      | with_reducible exact (meek_asBool _).any
      | with_reducible exact (meek_asString _).any
      | with_reducible exact (meek_asAgg _).any
      | with_reducible exact (meek_asAddr _).any
      | with_reducible exact (meek_askRoom _).any
      | with_reducible exact (meek_behind _).any
      | with_reducible exact (meek_asNumber _ _).any
      | with_reducible exact (meek_noView _).any
      | with_reducible exact (meek_byteOf _).any
      | with_reducible exact (meek_fieldPlace _ _).any
      | with_reducible exact (Meek.viewAt _).any
      | with_reducible exact (Meek.numberAt _).any
      | with_reducible exact (Meek.program).any
      | with_reducible refine Meek.bind (N := fun _ => True) ?_ fun _ _ => ?_
      | with_reducible refine Meek.ite (fun _ => ?_) (fun _ => ?_)
      | split
      | dsimp only
theorem meek_nilAhead : ∀ (n : Nat) (t : TypeId) (v : Value) (s : String), Meek P q Z C (fun _ => True) (nilAhead n t v s)
  | 0, _, _, _ => Meek.pure trivial
  | n + 1, t, v, s => by
    unfold nilAhead
    repeat' first
      | with_reducible exact Meek.pure trivial
      | with_reducible exact Meek.stuck
      | with_reducible exact Meek.goPanic
      | with_reducible exact Meek.unsup (fun g h => by cases h)
      | with_reducible exact Meek.runtimePanic _
      | with_reducible exact Meek.boundsPanic _ _ _ _
      | with_reducible exact (meek_followBlind _ _ _).any
      | with_reducible exact (meek_nilAhead n _ _ _).any
      | with_reducible exact Meek.noRoom
      | with_reducible exact (Meek.choose _).any
      | with_reducible exact (Meek.load _ _).any
      | with_reducible exact (Meek.store _ _ _).any
      | with_reducible exact (meek_typeInfo _).any
      | with_reducible exact (meek_underlying _).any
      | with_reducible exact (meek_typeStr _).any
      | with_reducible exact (meek_zeroValue _).any
      | with_reducible exact (meek_sizeOf _).any
      | with_reducible exact (meek_isAgg _).any
      | with_reducible exact (meek_loadCells _ _).any
      | with_reducible exact (meek_storeCells _ _ _).any
      | with_reducible exact (meek_loadVar _ _).any
      | with_reducible exact (meek_storeVar _ _ _).any
      | with_reducible exact (meek_newRow _ _).any
      | with_reducible exact (meek_newVar _ _).any
      | with_reducible exact (meek_elemOf _).any
      | with_reducible exact (meek_part _ _ _).any
      | with_reducible exact (meek_asIntOf _).any
      | with_reducible exact (meek_asInt _).any
      | with_reducible exact (meek_asBool _).any
      | with_reducible exact (meek_asString _).any
      | with_reducible exact (meek_asAgg _).any
      | with_reducible exact (meek_asAddr _).any
      | with_reducible exact (meek_askRoom _).any
      | with_reducible exact (meek_behind _).any
      | with_reducible exact (meek_asNumber _ _).any
      | with_reducible exact (meek_noView _).any
      | with_reducible exact (meek_byteOf _).any
      | with_reducible exact (meek_fieldPlace _ _).any
      | with_reducible exact (Meek.viewAt _).any
      | with_reducible exact (Meek.numberAt _).any
      | with_reducible exact (Meek.program).any
      | with_reducible refine Meek.bind (N := fun _ => True) ?_ fun _ _ => ?_
      | with_reducible refine Meek.ite (fun _ => ?_) (fun _ => ?_)
      | split
      | dsimp only
end
end Go.Proofs.YtlanlkpamnoekaaDoor.Lk
