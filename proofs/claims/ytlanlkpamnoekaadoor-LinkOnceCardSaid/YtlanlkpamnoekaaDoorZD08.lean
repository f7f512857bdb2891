/- Lone runs in company: a metatheorem on the model, and the sender beside link.All. Nothing that was there is turned. -/
import Derived.Test.YtlanlkpamnoekaaDoorZD07
import Derived.Conc.Listed
import Derived.Conc.Own4
import Derived.Lone
import Derived.Conc.CrowdComm
set_option linter.unusedSimpArgs false
set_option linter.unusedVariables false
namespace Go.Proofs.YtlanlkpamnoekaaDoor.Lk
open Go
section
variable {P : Program} {q : Prop} {Z : Nat → Prop} {C : Code → Prop} {α β σ : Type}

/-! ### ranges over functions -/
theorem meek_getLoop (l : Nat) : Meek P q Z C (fun r => ¬ Z l ∧ C r.assign ∧ C r.body ∧ ∀ c, r.pending = some c → C c) (Instr.getLoop l) := by
  unfold Instr.getLoop
  refine Meek.getObjBind _ (fun hz o ho => ?_) Dead.stuck
  cases o <;> first | exact Meek.stuck | exact Meek.pure ⟨hz, ho⟩
theorem meek_enterLoop (fn tmps ps assign body around) (h1 : C assign) (h2 : C body) : Meek P q Z C (fun r => ∀ d ∈ r.2, ∃ b, d = { target := .collected b, args := #[] }) (Instr.enterLoop fn tmps ps assign body around) := by
  unfold Instr.enterLoop
  have hm : ∀ d : Nat, OkObj q C (.loop { state := .ready, pending := none, fn, tmps, params := ps, assign, body, defers := d }) := fun d => ⟨h1, h2, fun c h => by cases h⟩
  cases around with
  | none =>
    dsimp only
    refine Meek.bind (Meek.newObj (.deferred (some [])) (rfl : ([] : List Deferred) = [])) fun r _ => Meek.bind (N := fun x : Nat × List Deferred => x = (r, [{ target := .collected r, args := #[] }])) (Meek.pure rfl) fun x hx => ?_
    subst hx
    refine Meek.bind (Meek.newObj _ (hm _)) fun _ _ => Meek.pure fun d hd => ⟨r, ?_⟩
    simpa using hd
  | some l =>
    dsimp only
    refine Meek.bind (meek_getLoop l) fun r _ => Meek.bind (N := fun x : Nat × List Deferred => x.2 = []) (Meek.pure rfl) fun x hx => ?_
    obtain ⟨d, m⟩ := x
    obtain rfl : m = [] := hx
    refine Meek.bind (Meek.newObj _ (hm _)) fun _ _ => Meek.pure fun d hd => ?_
    simp at hd
theorem meek_yield (l args) : Meek P q Z C (NN C) (Instr.yield l args) := by
  unfold Instr.yield
  refine Meek.bind (meek_getLoop l) fun r hr => ?_
  dsimp only
  refine Meek.ite (fun _ => ?_) (fun _ => ?_)
  · exact (Dead.bind Dead.stuck).meek
  · exact Meek.pure ⟨hr.2.1, hr.2.2.1⟩
theorem meek_beginRound (l) : Meek P q Z C (fun _ => True) (Instr.beginRound l) := by
  unfold Instr.beginRound
  refine Meek.bind (meek_getLoop l) fun r hr => Meek.bind (Meek.setObj _ _ hr.2 hr.1) fun _ _ => ?_
  split <;> first | exact Meek.pure trivial | exact Meek.runtimePanic _
theorem meek_endRound (l jump) (h : ∀ c, jump = some c → C c) : Meek P q Z C (fun _ => True) (Instr.endRound l jump) := by
  unfold Instr.endRound
  exact Meek.bind (meek_getLoop l) fun r hr => Meek.bind (Meek.setObj _ _ ⟨hr.2.1, hr.2.2.1, h⟩ hr.1) fun _ _ => Meek.pure trivial
theorem meek_endLoop (l) : Meek P q Z C (fun j => ∀ c, j = some c → C c) (Instr.endLoop l) := by
  unfold Instr.endLoop
  refine Meek.bind (meek_getLoop l) fun r hr => ?_
  dsimp only
  refine Meek.ite (fun _ => ?_) (fun _ => ?_)
  · exact (Dead.bind (dead_runtimePanic _)).meek
  · exact Meek.bind (Meek.setObj _ _ hr.2 hr.1) fun _ _ => Meek.pure hr.2.2.2
theorem meek_takeDeferred (b) : Meek P q Z C (fun l => l = []) (Instr.takeDeferred b) := by
  unfold Instr.takeDeferred
  refine Meek.getObjBind _ (fun hz o ho => ?_) Dead.stuck
  cases o with
  | deferred c =>
    cases c with
    | none => exact Meek.stuck
    | some ds => exact Meek.bind (Meek.setObj _ _ trivial hz) fun _ _ => Meek.pure ho
  | _ => exact Meek.stuck

/-! ### calls -/
def niceBuiltin : Builtin → Bool
  | .append | .len | .cap | .min | .max | .copy | .close => true
  | _ => false
def niceOp (P : Program) : Op → Bool
  | .move _ | .assign _ | .pick .. | .alloc _ | .box .. | .build .. | .buildSlice .. | .load .. | .store .. | .unOp .. | .slice .. | .fieldAddr .. | .field .. | .indexAddr .. | .index .. | .extract .. | .makeFunc .. | .send .. | .nilCheck _ => true
  | .select _ b => b
  | .binOp op t _ _ _ => match op with | .eql | .neq => plainEq P 10 t | _ => true
  | .convert src dst _ => niceConv P src dst
  | .call c => match c.callee with | .builtin b => niceBuiltin b | .value _ => true | .invoke .. => false
  | _ => false

theorem meek_val {s : Sem Value} (h : Meek P q Z C (fun _ => True) s) : Meek P q Z C (NN C) (do pure (Next.value (← s))) := Meek.bind h fun _ _ => Meek.pure trivial
theorem meek_skip {s : Sem Unit} (h : Meek P q Z C (fun _ => True) s) : Meek P q Z C (NN C) (do s; pure Next.skip) := Meek.bind h fun _ _ => Meek.pure trivial

theorem meek_callMethod (hcall : ∀ f args, Meek P q Z C (NN C) (callFunc f args)) (r n args) : Meek P q Z C (NN C) (callMethod r n args) := by
  unfold callMethod
  split
  · exact Meek.bind Meek.program fun p _ => Meek.bind (meek_method _ _ _ _) fun x _ => hcall _ _
  · exact Meek.runtimePanic _
  · exact Meek.stuck
theorem meek_builtin (hq : ¬ q) (b a t cs args) (h : niceBuiltin b = true) : Meek P q Z C (NN C) (builtin b a t cs args) := by
  unfold builtin
  cases b <;> simp only [niceBuiltin, Bool.false_eq_true] at h
  · exact meek_val (meek_append _ _ _)
  · exact meek_val (meek_cap _ _ _)
  · exact meek_val (dead_close hq _ _ _).meek
  · exact meek_val (meek_copy _ _ _)
  · exact meek_val (meek_len _ _ _)
  · exact meek_val (meek_max _ _ _)
  · exact meek_val (meek_min _ _ _)
/-- The targets that a call may have: no built-in function but the listed ones, no mark, no end of a coroutine. -/
def niceTarget : Target → Prop
  | .fn .. | .nil => True
  | .builtin b .. => niceBuiltin b = true
  | _ => False
theorem meek_invoke (hq : ¬ q) (hcall : ∀ f args, Meek P q Z C (NN C) (callFunc f args)) (t args) (h : niceTarget t) : Meek P q Z C (NN C) (invoke t args) := by
  unfold invoke
  cases t with
  | nil => exact Meek.runtimePanic _
  | builtin b a ty c => exact meek_builtin hq _ _ _ _ _ h
  | collected r => exact h.elim
  | coroexit c => exact h.elim
  | fn f cap =>
    cases f with
    | func f => exact hcall _ _
    | yield l => exact meek_yield _ _
    | method n =>
      dsimp only
      split
      · exact meek_callMethod hcall _ _ _
      · exact Meek.stuck
    | methodOf t n =>
      dsimp only
      split
      · refine Meek.bind (meek_underlying t) fun u _ => ?_
        split <;> exact meek_callMethod hcall _ _ _
      · exact Meek.stuck
    | via t p f b =>
      dsimp only
      split
      · exact Meek.bind (meek_receiverVia _ _ _ _) fun _ _ => hcall _ _
      · exact Meek.stuck
theorem meek_ofValue (v args) : Meek P q Z C (fun d => niceTarget d.target) (Deferred.ofValue v args) := by
  unfold Deferred.ofValue
  split
  · exact Meek.pure trivial
  · exact Meek.pure trivial
  · exact Meek.stuck
theorem meek_resolve (ρ c t) (h : match c.callee with | .builtin b => niceBuiltin b = true | .value _ => True | .invoke .. => False) : Meek P q Z C (fun d => niceTarget d.target) (resolve ρ c t) := by
  unfold resolve
  dsimp only
  cases hc : c.callee with
  | builtin b => rw [hc] at h; exact Meek.pure h
  | invoke r n => rw [hc] at h; exact h.elim
  | value f => exact meek_ofValue _ _

theorem meek_execOp (hq : ¬ q) (hcall : ∀ f args, Meek P q Z C (NN C) (callFunc f args)) (ρ : Operand → Value) (o : Oper) (h : niceOp P o.op = true) : Meek P q Z C (NN C) (execOp ρ o) := by
  unfold execOp
  dsimp only
  cases ho : o.op <;> rw [ho] at h <;> simp only [niceOp, Bool.false_eq_true] at h <;> dsimp only
  · exact Meek.pure trivial
  · exact Meek.pure trivial
  · exact Meek.bind (meek_asBool _) fun b _ => Meek.pure trivial
  · exact meek_val (meek_alloc _)
  · exact meek_val (meek_box _ _)
  · exact meek_val (meek_build _ _)
  · exact meek_val (meek_buildSlice _ _ _)
  · exact meek_val (meek_loadAt _ _)
  · exact meek_skip (meek_storeAt _ _ _)
  · split
    · exact Meek.runtimePanic _
    · exact Meek.runtimePanic _
    · exact Meek.runtimePanic _
    · split
      · exact Meek.runtimePanic _
      · refine Meek.bind Meek.program fun p _ => Meek.bind (meek_nilAhead _ _ _ _) fun x _ => ?_
        refine Meek.ite (fun _ => ?_) (fun _ => Meek.pure trivial)
        exact (Dead.bind (Dead.unsupported (fun g h => by cases h))).meek
      · exact Meek.pure trivial
    · exact Meek.pure trivial
  · refine meek_val (Meek.bind (meek_eqGuard _ _ _ _ _ _) fun _ _ => meek_binOp _ _ _ _ ?_)
    rintro (rfl | rfl) <;> exact h
  · exact meek_val (meek_unary _ _)
  · exact meek_val (meek_convert _ _ _ h)
  · exact meek_val (Meek.pure trivial)
  · exact meek_val (meek_sliceAt _ _ _ _ _)
  · exact meek_val (meek_fieldAt _ _ _)
  · exact meek_val (meek_field _ _ _)
  · exact meek_val (meek_indexAt _ _ _)
  · exact meek_val (meek_index _ _ _)
  · exact meek_val (meek_extract _ _)
  · refine Meek.bind (meek_resolve _ _ _ ?_) fun d hd => meek_invoke hq hcall _ _ hd
    split at h <;> first | exact h | trivial | exact absurd h (by simp)
  · exact Meek.pure rfl
  · refine Meek.bind (meek_mapMArray _ (fun s => ?_) _) fun cs _ => Meek.pure h
    repeat' first
      | with_reducible exact Meek.pure trivial
      | with_reducible exact Meek.stuck
      | with_reducible exact Meek.goPanic
      | with_reducible exact Meek.unsup (fun g h => by cases h)
      | with_reducible exact Meek.runtimePanic _
      | with_reducible exact Meek.boundsPanic _ _ _ _
      | with_reducible exact Meek.noRoom
      | with_reducible exact (Meek.choose _).any
      | with_reducible exact (Meek.load _ _).any
      | with_reducible exact (Meek.store _ _ _).any
      | with_reducible exact (meek_typeInfo _).any
      | with_reducible exact (meek_underlying _).any
      | with_reducible exact (meek_typeStr _).any
      | with_reducible exact (meek_zeroValue _).any
      | with_reducible exact (meek_sizeOf _).any
      | with_reducible exact (meek_isAgg _).any
      | with_reducible exact (meek_loadCells _ _).any
      | with_reducible exact (meek_storeCells _ _ _).any
      | with_reducible exact (meek_loadVar _ _).any
      | with_reducible exact (meek_storeVar _ _ _).any
      | with_reducible exact (meek_newRow _ _).any
      | with_reducible exact (meek_newVar _ _).any
      | with_reducible exact (meek_elemOf _).any
      | with_reducible exact (meek_part _ _ _).any
      | with_reducible exact (meek_asIntOf _).any
      | with_reducible exact (meek_asInt _).any
      | with_reducible exact (meek_asBool _).any
      | with_reducible exact (meek_asString _).any
      | with_reducible exact (meek_asAgg _).any
      | with_reducible exact (meek_asAddr _).any
      | with_reducible exact (meek_askRoom _).any
      | with_reducible exact (meek_behind _).any
      | with_reducible exact (meek_asNumber _ _).any
      | with_reducible exact (meek_noView _).any
      | with_reducible exact (meek_byteOf _).any
      | with_reducible exact (meek_fieldPlace _ _).any
      | with_reducible exact (Meek.viewAt _).any
      | with_reducible exact (Meek.numberAt _).any
      | with_reducible exact (Meek.program).any
      | with_reducible refine Meek.bind (N := fun _ => True) ?_ fun _ _ => ?_
      | with_reducible refine Meek.ite (fun _ => ?_) (fun _ => ?_)
      | split
      | dsimp only

/-- The operations ahead of a go statement: they make memory, a channel too, and write it. -/
def preOp : Op → Bool
  | .assign _ | .alloc _ | .box .. | .store .. | .makeFunc .. | .makeChan .. => true
  | _ => false
theorem meek_makeChan (hq : q) (t v) : Meek P q Z C (fun _ => True) (Instr.makeChan t v) := by
  unfold Instr.makeChan
  have hn : ∀ n, Meek P q Z C (fun _ => True) (newObj (.chan n #[] false 0 0 false)) := fun n => Meek.newObj _ hq
  repeat' first
    | with_reducible exact Meek.pure trivial
    | with_reducible exact Meek.stuck
    | with_reducible exact Meek.goPanic
    | with_reducible exact Meek.unsup (fun g h => by cases h)
    | with_reducible exact Meek.runtimePanic _
    | with_reducible exact Meek.boundsPanic _ _ _ _
    | with_reducible exact (hn _).any
    | with_reducible exact Meek.noRoom
    | with_reducible exact (Meek.choose _).any
    | with_reducible exact (Meek.load _ _).any
    | with_reducible exact (Meek.store _ _ _).any
    | with_reducible exact (meek_typeInfo _).any
    | with_reducible exact (meek_underlying _).any
    | with_reducible exact (meek_typeStr _).any
    | with_reducible exact (meek_zeroValue _).any
    | with_reducible exact (meek_sizeOf _).any
    | with_reducible exact (meek_isAgg _).any
    | with_reducible exact (meek_loadCells _ _).any
    | with_reducible exact (meek_storeCells _ _ _).any
    | with_reducible exact (meek_loadVar _ _).any
    | with_reducible exact (meek_storeVar _ _ _).any
    | with_reducible exact (meek_newRow _ _).any
    | with_reducible exact (meek_newVar _ _).any
    | with_reducible exact (meek_elemOf _).any
    | with_reducible exact (meek_part _ _ _).any
    | with_reducible exact (meek_asIntOf _).any
    | with_reducible exact (meek_asInt _).any
    | with_reducible exact (meek_asBool _).any
    | with_reducible exact (meek_asString _).any
    | with_reducible exact (meek_asAgg _).any
    | with_reducible exact (meek_asAddr _).any
    | with_reducible exact (meek_askRoom _).any
    | with_reducible exact (meek_behind _).any
    | with_reducible exact (meek_asNumber _ _).any
    | with_reducible exact (meek_noView _).any
    | with_reducible exact (meek_byteOf _).any
    | with_reducible exact (meek_fieldPlace _ _).any
    | with_reducible exact (Meek.viewAt _).any
    | with_reducible exact (Meek.numberAt _).any
    | with_reducible exact (Meek.program).any
    | with_reducible refine Meek.bind (N := fun _ => True) ?_ fun _ _ => ?_
    | with_reducible refine Meek.ite (fun _ => ?_) (fun _ => ?_)
    | split
    | dsimp only
theorem meek_preOp (hq : q) (ρ : Operand → Value) (o : Oper) (h : preOp o.op = true) : Meek P q Z C (fun n => (∃ v, n = .value v) ∨ n = .skip) (execOp ρ o) := by
  have val : ∀ {s : Sem Value}, Meek P q Z C (fun _ => True) s → Meek P q Z C (fun n => (∃ v, n = .value v) ∨ n = .skip) (do pure (Next.value (← s))) := fun h => Meek.bind h fun v _ => Meek.pure (.inl ⟨v, rfl⟩)
  unfold execOp
  dsimp only
  cases ho : o.op <;> rw [ho] at h <;> simp only [preOp, Bool.false_eq_true] at h <;> dsimp only
  · exact Meek.pure (.inl ⟨_, rfl⟩)
  · exact val (meek_alloc _)
  · exact val (meek_box _ _)
  · exact Meek.bind (meek_storeAt _ _ _) fun _ _ => Meek.pure (.inr rfl)
  · exact val (Meek.pure trivial)
  · exact val (meek_makeChan hq _ _)
end
end Go.Proofs.YtlanlkpamnoekaaDoor.Lk
namespace Go.Proofs.YtlanlkpamnoekaaDoor.Lk
open Go Go.Conc

/-- Every operation of the code is of the listed kinds. -/
def niceCode (P : Program) : Code → Bool
  | .region _ ops _ => ops.toList.all fun o => niceOp P o.op
  | .seq a b | .cond _ a b | .rangeFunc _ _ a b => niceCode P a && niceCode P b
  | .block _ c | .loop c | .scope c => niceCode P c
  | _ => true
abbrev NC (P : Program) : Code → Prop := fun c => niceCode P c = true
def niceItem (P : Program) : Item → Prop
  | .code c | .inLoop c | .inScope c => niceCode P c = true
  | .inRegion ops todo => ∀ i ∈ todo, ∀ o, ops[i]? = some o → niceOp P o.op = true
  | .call .. | .extern .. => False
  | _ => True
def marks (ds : List Deferred) : Prop := ∀ d ∈ ds, ∃ b, d = { target := .collected b, args := #[] }

/-- A frame that runs, or returns: its code is of the listed kinds; nothing is deferred but a loop's mark. -/
structure NF (P : Program) (fr : Frame) : Prop where
  todo : ∀ it ∈ fr.todo, niceItem P it
  defers : marks fr.defers
  kind : fr.kind = .normal
  mode : fr.mode = .run ∨ fr.mode = .returning
/-- A frame that a panic goes through. -/
structure PF (fr : Frame) : Prop where
  defers : marks fr.defers
  mode : ∃ ch, fr.mode = .panicking ch

/-- What is still to be done comes to a go statement by operations that make memory and write it. -/
inductive PreL : List Item → Prop
  | reg (ops : Array Oper) (l : List Nat) (k : List Item) (h : ∀ i ∈ l, ∀ o, ops[i]? = some o → preOp o.op = true) (hk : PreL k) : PreL (.inRegion ops l :: k)
  | code (id : Nat) (ops : Array Oper) (d : Bool) (k : List Item) (h : ∀ (i : Nat) o, ops[i]? = some o → preOp o.op = true) (hk : PreL k) : PreL (.code (.region id ops d) :: k)
  | seq (a b : Code) (k : List Item) (h : PreL (.code a :: .code b :: k)) : PreL (.code (.seq a b) :: k)
  | go2 (ops : Array Oper) (k : List Item) (om og : Oper) (t : Tmp) (fn : Fn) (x y : Array Operand) (c : Call) (hm : ops[0]? = some om) (hm1 : om.op = .makeFunc fn x y) (hm2 : om.guard = none) (hm3 : om.dst = some t) (hg : ops[1]? = some og) (hg1 : og.op = .go c) (hg2 : og.guard = none) (hc : c.callee = .value (.tmp t)) : PreL (.inRegion ops [0, 1] :: k)
  | goC (id : Nat) (ops : Array Oper) (k : List Item) (om og : Oper) (t : Tmp) (fn : Fn) (x y : Array Operand) (c : Call) (hs : ops.size = 2) (hm : ops[0]? = some om) (hm1 : om.op = .makeFunc fn x y) (hm2 : om.guard = none) (hm3 : om.dst = some t) (hg : ops[1]? = some og) (hg1 : og.op = .go c) (hg2 : og.guard = none) (hc : c.callee = .value (.tmp t)) : PreL (.code (.region id ops false) :: k)
/-- A frame on its way to a go statement; or at it, the function in its place. -/
structure BF (fr : Frame) : Prop where
  todo : PreL fr.todo ∨ ∃ ops k og t c, fr.todo = .inRegion ops [1] :: k ∧ ops[1]? = some og ∧ og.op = .go c ∧ og.guard = none ∧ c.callee = .value (.tmp t) ∧ ((∃ fn a b, fr.tmps.getD t undef = .func fn a b) ∨ fr.tmps.getD t undef = undef)
  defers : marks fr.defers
  kind : fr.kind = .normal
  mode : fr.mode = .run
  round : fr.roundOf = none

inductive Mv where
  | stay (f : Frame)
  | push (f f' : Frame)
  | pop (v : Value)
/-- 'q': it is on its way to the go statement. -/
def NM (P : Program) (bad : FuncId) (q : Prop) : Mv → Prop
  | .stay f => (¬ q → NF P f) ∧ (q → BF f)
  | .push f f' => ¬ q ∧ (NF P f ∨ ∃ args, f = Frame.enter P bad args .normal) ∧ NF P f'
  | .pop _ => ¬ q
def Acts (r : List Frame → GStep) (mv : Mv) (w : World) (es : Array Event) : Prop :=
  match mv with
  | .stay f => ∀ K, r K = .go (Conc.G f K) w es
  | .push f f' => ∀ K, r K = .go (Conc.G f (f' :: K)) w es
  | .pop v => ∀ c K, r (c :: K) = .go (Conc.G (c.finish v) K) w es

/-- The ways that lead to no end. -/
inductive DeadR (P : Program) (Z : Nat → Prop) (r : List Frame → GStep) : Prop
  | ended (h : ∀ c K, ∃ o w es, r (c :: K) = .ended o w es)
  | panic (q : Prop) (f : Frame) (w : World) (hf : PF f) (hw : Inv q Z (NC P) w) (h : ∀ K, ∃ es, r K = .go (Conc.G f K) w es)
  | waits (f : Frame) (w : World) (hw : Inv False Z (NC P) w) (cs : Array CommCase) (sh : CommShape) (h : ∀ K, ∃ es, r K = .comm (Conc.G f K) cs true sh w es)
  | spawn (h : ∀ K, ∃ g c w es, r K = .spawn g c w es)

def Follows (P : Program) (Z : Nat → Prop) (bad : FuncId) (q : Prop) (r : World → List Frame → GStep) (G : World) : Prop :=
  DeadR P Z (r G) ∨ ∃ mv G' n, (∃ es, Acts (r G) mv G' es) ∧ NM P bad q mv ∧ Inv q Z (NC P) G' ∧ G'.tape = G.tape ∧ G'.drawn = G.drawn + n ∧ G.heap.size ≤ G'.heap.size ∧
    ∀ A, Rel Z G A → Agree n G A → ∃ A' es, Acts (r A) mv A' es ∧ Rel Z G' A' ∧ A'.tape = A.tape ∧ A'.drawn = A.drawn + n ∧ (∀ i : Nat, Z i → A'.heap[i]? = A.heap[i]?) ∧ ∀ e ∈ es, EvA Z e

section
variable {P : Program} {Z : Nat → Prop} {bad : FuncId} {q : Prop} {α : Type}

theorem Acts.after {r r' : List Frame → GStep} {mv : Mv} {w : World} {es es0 : Array Event} (h : Acts r mv w es) (hr : ∀ K, r' K = GStep.after es0 (r K)) : Acts r' mv w (es0 ++ es) := by
  cases mv with
  | stay f => intro K; rw [hr, h K]; rfl
  | push f f' => intro K; rw [hr, h K]; rfl
  | pop v => intro c K; rw [hr, h c K]; rfl
theorem DeadR.after {r r' : List Frame → GStep} (h : DeadR P Z r) (hr : ∀ K, ∃ es0, r' K = GStep.after es0 (r K)) : DeadR P Z r' := by
  cases h with
  | ended h => exact .ended fun c K => by obtain ⟨o, w, es, e⟩ := h c K; obtain ⟨es0, e0⟩ := hr (c :: K); exact ⟨o, w, es0 ++ es, by rw [e0, e]; rfl⟩
  | panic q f w hf hw h => exact .panic q f w hf hw fun K => by obtain ⟨es, e⟩ := h K; obtain ⟨es0, e0⟩ := hr K; exact ⟨es0 ++ es, by rw [e0, e]; rfl⟩
  | waits f w hw cs sh h => exact .waits f w hw cs sh fun K => by obtain ⟨es, e⟩ := h K; obtain ⟨es0, e0⟩ := hr K; exact ⟨es0 ++ es, by rw [e0, e]; rfl⟩
  | spawn h => exact .spawn fun K => by obtain ⟨g, c, w, es, e⟩ := h K; obtain ⟨es0, e0⟩ := hr K; exact ⟨g, c, w, es0 ++ es, by rw [e0, e]; rfl⟩

/-- A move without a look at the world. -/
theorem follows_move {r : World → List Frame → GStep} {G : World} (hG : Inv q Z (NC P) G) (mv : Mv) (hm : NM P bad q mv) (h : ∀ w, Acts (r w) mv w #[]) : Follows P Z bad q r G :=
  .inr ⟨mv, G, 0, ⟨_, h G⟩, hm, hG, rfl, rfl, Nat.le_refl _, fun A hA _ => ⟨A, #[], h A, hA, rfl, rfl, fun _ _ => rfl, fun e he => by simp at he⟩⟩

theorem follows_sem {N : α → Prop} {s : Sem α} (hs : Meek P q Z (NC P) N s) {G : World} (hG : Inv q Z (NC P) G) {r : World → List Frame → GStep} {fn : FuncId} {k : α → World → List Frame → GStep}
    (hok : ∀ w a w' K, s.run P w = .ok a w' → r w K = GStep.after (seen P fn (s.events P w #[])) (k a w' K))
    (hd : ∀ h w, s.run P G = .halt h w → Fine h → Inv q Z (NC P) w → DeadR P Z (r G))
    (hk : ∀ a G', N a → Inv q Z (NC P) G' → Follows P Z bad q (k a) G') : Follows P Z bad q r G := by
  rcases hs G hG with ⟨h, w, hr, hf, hw⟩ | ⟨a, G1, n, hr, hN, hG1, t1, d1, z1, hc⟩
  · exact .inl (hd h w hr hf hw)
  rcases hk a G1 hN hG1 with hdd | ⟨mv, G2, m, ⟨es, ha⟩, hm, hG2, t2, d2, z2, hc2⟩
  · exact .inl (hdd.after fun K => ⟨_, hok G a G1 K hr⟩)
  refine .inr ⟨mv, G2, n + m, ⟨_, ha.after fun K => hok G a G1 K hr⟩, hm, hG2, t2.trans t1, by rw [d2, d1, Nat.add_assoc], Nat.le_trans z1 z2, fun A hA hag => ?_⟩
  obtain ⟨A1, a1, a2, a3, a4, a5, a6⟩ := hc A hA (hag.of_le (by omega))
  obtain ⟨A2, es2, b1, b2, b3, b4, b5, b6⟩ := hc2 A1 a2 (hag.shift t1 d1 a3 a4)
  refine ⟨A2, _, b1.after fun K => hok A a A1 K a1, b2, b3.trans a3, by rw [b4, a4, Nat.add_assoc], fun i hi => (b5 i hi).trans (a5 i hi), fun e he => ?_⟩
  rcases Array.mem_append.1 he with h | h
  · exact a6 #[] (by simp) e (mem_seen h)
  · exact b6 e h

/-! ### frames -/
theorem NF.noCall {fr : Frame} (h : NF P fr) {d w r s k} (e : fr.todo = .call d w r s :: k) : False := h.todo (.call d w r s) (by rw [e]; simp)
theorem NF.noExt {fr : Frame} (h : NF P fr) {r s k} (e : fr.todo = .extern r s :: k) : False := h.todo (.extern r s) (by rw [e]; simp)
theorem nm_stay {f : Frame} (h : NF P f) : NM P bad False (.stay f) := ⟨fun _ => h, fun h => h.elim⟩
theorem nm_push {f f' : Frame} (h : NF P f) (h' : NF P f') : NM P bad False (.push f f') := ⟨id, .inl h, h'⟩
theorem NF.finish {fr : Frame} (h : NF P fr) (v : Value) : NF P (fr.finish v) := by
  have hn := h
  obtain ⟨h1, h2, h3, h4⟩ := h
  unfold Frame.finish
  split
  · rename_i ops i rest k e
    rw [e] at h1
    exact ⟨fun it hit => by
      simp only [List.mem_cons] at hit
      rcases hit with rfl | hit
      · exact fun j hj => h1 (.inRegion ops (i :: rest)) (by simp) j (by simp [hj])
      · exact h1 it (by simp [hit]), h2, h3, h4⟩
  · rename_i l k e
    rw [e] at h1
    exact ⟨fun it hit => by
      simp only [List.mem_cons] at hit
      rcases hit with rfl | hit
      · trivial
      · exact h1 it (by simp [hit]), h2, h3, h4⟩
  · rename_i k e
    rw [e] at h1
    exact ⟨fun it hit => h1 it (by simp [hit]), h2, h3, h4⟩
  · rename_i e
    exact (hn.noCall e).elim
  · rename_i e
    exact (hn.noExt e).elim
  · exact ⟨h1, h2, h3, h4⟩
theorem NF.with {fr : Frame} (h : NF P fr) {todo : List Item} (ht : ∀ it ∈ todo, niceItem P it) : NF P { fr with todo } := ⟨ht, h.defers, h.kind, h.mode⟩
theorem NF.raise {fr : Frame} (h : NF P fr) (ch : List PanicEntry) : PF (fr.raise ch) := by
  unfold Frame.raise
  split
  · exact ⟨h.defers, _, rfl⟩
  · exact ⟨h.defers, _, rfl⟩

/-- The functions but one have code of the listed kinds. -/
def NiceP (P : Program) (bad : FuncId) : Prop := ∀ f fn, P.funcs[f]? = some fn → f ≠ bad → ∀ c, fn.body = some c → niceCode P c = true
theorem NF.enter (hP : NiceP P bad) {f : FuncId} (hf : f ≠ bad) (args : Array Value) : NF P (Frame.enter P f args .normal) := by
  refine ⟨fun it hit => ?_, fun d hd => by simp [Frame.enter] at hd, rfl, .inl rfl⟩
  simp only [Frame.enter, List.mem_singleton] at hit
  subst hit
  show niceCode P _ = true
  cases hfn : P.funcs[f]? with
  | none => rfl
  | some fn =>
    cases hb : fn.body with
    | none => simp [hb, niceCode]
    | some c => simpa [hb] using hP f fn hfn hf c hb

/-! ### an operation's outcome -/
theorem after_nil (s : GStep) : GStep.after #[] s = s := by cases s <;> simp [GStep.after]

theorem follows_next (hP : NiceP P bad) {fr : Frame} (hfr : NF P fr) {G : World} (hG : Inv False Z (NC P) G) (n : Next) (hn : NN (NC P) n) : Follows P Z bad False (fun w K => stepG.apply P true fr K none (Sem.pure n) w) G := by
  have hkind : (match fr.todo with | .call _ true _ _ :: _ => CallKind.wrapped | _ => .normal) = .normal := by
    split
    · rename_i e
      exact (hfr.noCall e).elim
    · rfl
  have hearly : (fr.kind == CallKind.early) = false := by rw [hfr.kind]; rfl
  have hsn : seen P fr.fn #[] = #[] := seen_none _ _
  cases n with
  | value v => exact follows_move hG (.stay (fr.finish v)) (nm_stay (hfr.finish v)) fun w K => by simp [stepG.apply, Sem.runT, hearly, hsn, Conc.G, GStep.after, -Sem.runT_eq]
  | skip => exact follows_move hG (.stay (fr.finish undef)) (nm_stay (hfr.finish _)) fun w K => by simp [stepG.apply, Sem.runT, hearly, hsn, Conc.G, GStep.after, -Sem.runT_eq]
  | enter f args =>
    have hm : NM P bad False (.push (Frame.enter P f args .normal) fr) := by
      by_cases hf : f = bad
      · subst hf; exact ⟨id, .inr ⟨args, rfl⟩, hfr⟩
      · exact nm_push (NF.enter hP hf args) hfr
    exact follows_move hG (.push (Frame.enter P f args .normal) fr) hm fun w K => by simp [stepG.apply, Sem.runT, hearly, hsn, Conc.G, GStep.after, -Sem.runT_eq]; exact congrArg _ hkind
  | round l f tmps a b =>
    refine follows_move hG (.push (Frame.round l f tmps a b .normal) fr) (nm_push ⟨fun it hit => ?_, fun d hd => by simp [Frame.round] at hd, rfl, .inl rfl⟩ hfr) fun w K => by simp [stepG.apply, Sem.runT, hearly, hsn, Conc.G, GStep.after, -Sem.runT_eq]
    simp only [Frame.round, List.mem_cons, List.not_mem_nil, or_false] at hit
    rcases hit with rfl | rfl | rfl
    · exact hn.1
    · trivial
    · exact hn.2
  | comm cs b s =>
    obtain rfl : b = true := hn
    exact .inl (.waits fr G hG cs s fun K => ⟨#[], by simp [stepG.apply, Sem.runT, hearly, hsn, Conc.G, GStep.after, -Sem.runT_eq]⟩)
  | _ => exact hn.elim

theorem dead_halt {fr : Frame} (hfr : NF P fr) (h : Halt) (w : World) (hf : Fine h) (hw : Inv False Z (NC P) w) : DeadR P Z (fun K => stepG.apply P true fr K none (Sem.halt h) w) := by
  have hearly : (fr.kind == CallKind.early) = false := by rw [hfr.kind]; rfl
  have hsn : seen P fr.fn #[] = #[] := seen_none _ _
  cases h with
  | panic v => exact .panic False (fr.raise [{ v, recovered := false }]) w (hfr.raise _) hw fun K => ⟨#[], by simp [stepG.apply, Sem.runT, hearly, hsn, Conc.G, GStep.after, -Sem.runT_eq]⟩
  | stuck why => exact .ended fun c K => ⟨_, w, #[], by simp [stepG.apply, Sem.runT, hearly, hsn, GStep.after, -Sem.runT_eq]; rfl⟩
  | unsupported u =>
    refine .ended fun c K => ⟨.unsupported u (fr.pos P), w, #[], ?_⟩
    cases u <;> first | exact absurd rfl (hf _) | simp [stepG.apply, Sem.runT, hearly, hsn, GStep.after, -Sem.runT_eq]
  | _ => exact hf.elim

theorem follows_apply (hP : NiceP P bad) {s : Sem Next} (hs : Meek P False Z (NC P) (NN (NC P)) s) {fr : Frame} (hfr : NF P fr) {G : World} (hG : Inv False Z (NC P) G) : Follows P Z bad False (fun w K => stepG.apply P true fr K none s w) G := by
  have hearly : (fr.kind == CallKind.early) = false := by rw [hfr.kind]; rfl
  have hsn : seen P fr.fn #[] = #[] := seen_none _ _
  refine follows_sem hs hG (fn := fr.fn) (k := fun n w K => stepG.apply P true fr K none (Sem.pure n) w) (fun w a w' K hr => ?_) (fun h w hr hf hw => (dead_halt hfr h w hf hw).after fun K => ?_) (fun a G' hN hG' => follows_next hP hfr hG' a hN)
  · have h0 : s.runT P w #[] = (.ok a w', s.events P w #[]) := by rw [Sem.runT_eq, hr]
    have h1 : (Sem.pure a : Sem Next).runT P w' #[] = (.ok a w', #[]) := rfl
    simp only [stepG.apply, h0, h1, if_true, hearly, if_false, Bool.false_eq_true, hsn, after_nil]
  · have h0 : s.runT P G #[] = (.halt h w, s.events P G #[]) := by rw [Sem.runT_eq, hr]
    have h1 : (Sem.halt h : Sem Next).runT P w #[] = (.halt h w, #[]) := rfl
    refine ⟨seen P fr.fn (s.events P G #[]), ?_⟩
    cases h with
    | panic v => simp only [stepG.apply, h0, h1, if_true, hearly, if_false, Bool.false_eq_true, hsn, after_nil]
    | stuck why => simp only [stepG.apply, h0, h1, if_true, hearly, if_false, Bool.false_eq_true, hsn, after_nil]
    | unsupported u => cases u <;> first | exact absurd rfl (hf _) | simp only [stepG.apply, h0, h1, if_true, hearly, if_false, Bool.false_eq_true, hsn, after_nil]
    | _ => exact hf.elim
end
end Go.Proofs.YtlanlkpamnoekaaDoor.Lk
namespace Go.Proofs.YtlanlkpamnoekaaDoor.Lk
open Go Go.Conc
section
variable {P : Program} {Z : Nat → Prop} {bad : FuncId} {α : Type}

theorem follows_ended {r : World → List Frame → GStep} {G : World} (h : ∀ w c K, ∃ o w' es, r w (c :: K) = .ended o w' es) : Follows P Z bad False r G := .inl (.ended (h G))

theorem follows_leave {fr : Frame} (h : NF P fr) {G : World} (hG : Inv False Z (NC P) G) (jump : Option Code) (hj : ∀ c, jump = some c → niceCode P c = true) {r : World → List Frame → GStep}
    (hr0 : fr.roundOf = none → (∀ w K, r w K = .go (Conc.G { fr with mode := .returning } K) w #[]) ∨ ∀ w K, ∃ o w' es, r w K = .ended o w' es)
    (hrl : ∀ l, fr.roundOf = some l → (∀ w v w' K, (Instr.endRound l jump).run P w = .ok v w' → r w K = GStep.after (seen P fr.fn ((Instr.endRound l jump).events P w #[])) (doReturn P true fr K none v w')) ∧
      ∀ w x w' K, (Instr.endRound l jump).run P w = .halt x w' → ∃ o w' es, r w K = .ended o w' es) : Follows P Z bad False r G := by
  cases hro : fr.roundOf with
  | none =>
    rcases hr0 hro with h0 | h0
    · exact follows_move hG (.stay { fr with mode := .returning }) (nm_stay ⟨h.todo, h.defers, h.kind, .inr rfl⟩) fun w K => h0 w K
    · exact follows_ended fun w c K => h0 w (c :: K)
  | some l =>
    obtain ⟨h1, h2⟩ := hrl l hro
    refine follows_sem (meek_endRound l jump hj) hG (fn := fr.fn) (k := fun v w K => doReturn P true fr K none v w) h1 (fun x w hr _ _ => .ended fun c K => h2 G x w (c :: K) hr) fun v G' _ hG' => ?_
    exact follows_move hG' (.pop v) id fun w c K => by simp [doReturn, h.kind, Conc.G]

theorem nice_label (c : Code) (l : Nat) (c' : Code) (h : findLabel c l = some c') (hc : niceCode P c = true) : niceCode P c' = true := by
  induction c generalizing c' with
  | seq a b iha ihb =>
    simp only [niceCode, Bool.and_eq_true] at hc
    unfold findLabel at h
    cases ha : findLabel a l with
    | some r =>
      rw [ha] at h
      obtain rfl := Option.some.inj h
      simp only [niceCode, Bool.and_eq_true]
      exact ⟨iha r ha hc.1, hc.2⟩
    | none =>
      rw [ha] at h
      exact ihb c' h hc.2
  | label l' =>
    unfold findLabel at h
    split at h
    · obtain rfl := Option.some.inj h; rfl
    · cases h
  | _ => cases h
theorem nice_exitTo (id : Nat) : ∀ (k k' : List Item), exitTo id k = some k' → (∀ it ∈ k, niceItem P it) → ∀ it ∈ k', niceItem P it
  | [], k', h, _ => by cases h
  | x :: k, k', h, hk => by
    have hk' : ∀ it ∈ k, niceItem P it := fun it hit => hk it (by simp [hit])
    unfold exitTo at h
    split at h
    · split at h
      · rename_i e _; simp only [List.cons.injEq] at e; obtain rfl := Option.some.inj h; rw [← e.2]; exact hk'
      · rename_i e _; simp only [List.cons.injEq] at e; rw [← e.2] at h; exact nice_exitTo id k k' h hk'
    · rename_i e; simp only [List.cons.injEq] at e; rw [← e.2] at h; exact nice_exitTo id k k' h hk'
    · rename_i e; cases e
theorem nice_gotoIn (l : Nat) : ∀ (k k' : List Item), gotoIn l k = some k' → (∀ it ∈ k, niceItem P it) → ∀ it ∈ k', niceItem P it
  | [], k', h, _ => by cases h
  | x :: k, k', h, hk => by
    have hk' : ∀ it ∈ k, niceItem P it := fun it hit => hk it (by simp [hit])
    have hx := hk x (by simp)
    unfold gotoIn at h
    split at h
    · rename_i body k2 e
      simp only [List.cons.injEq] at e
      obtain ⟨rfl, rfl⟩ := e
      split at h
      · rename_i r hr
        obtain rfl := Option.some.inj h
        intro it hit
        simp only [List.mem_cons] at hit
        rcases hit with rfl | rfl | hit
        · exact nice_label body l r hr hx
        · exact hx
        · exact hk' it hit
      · exact nice_gotoIn l k k' h hk'
    · rename_i e; simp only [List.cons.injEq] at e; rw [← e.2] at h; exact nice_gotoIn l k k' h hk'
    · rename_i e; cases e

theorem meek_results (fn : Func) (tmps : Array Value) : Meek P False Z (NC P) (fun _ => True) (results fn tmps) := by
  unfold results
  refine Meek.bind (N := fun _ => True) (meek_mapMArray _ (fun r => ?_) _) fun vs _ => Meek.pure trivial
  split
  · exact Meek.pure trivial
  · repeat' first
      | with_reducible exact Meek.pure trivial
      | with_reducible exact Meek.stuck
      | with_reducible exact Meek.goPanic
      | with_reducible exact Meek.unsup (fun g h => by cases h)
      | with_reducible exact Meek.runtimePanic _
      | with_reducible exact Meek.boundsPanic _ _ _ _
      | with_reducible exact Meek.noRoom
      | with_reducible exact (Meek.choose _).any
      | with_reducible exact (Meek.load _ _).any
      | with_reducible exact (Meek.store _ _ _).any
      | with_reducible exact (meek_typeInfo _).any
      | with_reducible exact (meek_underlying _).any
      | with_reducible exact (meek_typeStr _).any
      | with_reducible exact (meek_zeroValue _).any
      | with_reducible exact (meek_sizeOf _).any
      | with_reducible exact (meek_isAgg _).any
      | with_reducible exact (meek_loadCells _ _).any
      | with_reducible exact (meek_storeCells _ _ _).any
      | with_reducible exact (meek_loadVar _ _).any
      | with_reducible exact (meek_storeVar _ _ _).any
      | with_reducible exact (meek_newRow _ _).any
      | with_reducible exact (meek_newVar _ _).any
      | with_reducible exact (meek_elemOf _).any
      | with_reducible exact (meek_part _ _ _).any
      | with_reducible exact (meek_asIntOf _).any
      | with_reducible exact (meek_asInt _).any
      | with_reducible exact (meek_asBool _).any
      | with_reducible exact (meek_asString _).any
      | with_reducible exact (meek_asAgg _).any
      | with_reducible exact (meek_asAddr _).any
      | with_reducible exact (meek_askRoom _).any
      | with_reducible exact (meek_behind _).any
      | with_reducible exact (meek_asNumber _ _).any
      | with_reducible exact (meek_noView _).any
      | with_reducible exact (meek_byteOf _).any
      | with_reducible exact (meek_fieldPlace _ _).any
      | with_reducible exact (Meek.viewAt _).any
      | with_reducible exact (Meek.numberAt _).any
      | with_reducible exact (Meek.program).any
      | with_reducible refine Meek.bind (N := fun _ => True) ?_ fun _ _ => ?_
      | with_reducible refine Meek.ite (fun _ => ?_) (fun _ => ?_)
      | split
      | dsimp only

/-- A frame that returns. -/
theorem follows_returning {fr : Frame} (h : NF P fr) (hm : fr.mode = .returning) {G : World} (hG : Inv False Z (NC P) G) : Follows P Z bad False (fun w K => stepG P true (Conc.G fr K) w) G := by
  have hs : ∀ w K, stepG P true (Conc.G fr K) w = unwind P true fr K none w := fun w K => by simp [stepG, Conc.G, hm]
  simp only [hs]
  cases hd : fr.defers with
  | cons d ds =>
    obtain ⟨b, rfl⟩ := h.defers d (by rw [hd]; simp)
    refine follows_sem (meek_takeDeferred b) hG (fn := fr.fn) (k := fun l w K => .go (Conc.G { fr with defers := l ++ ds } K) w #[]) (fun w a w' K hr => ?_) (fun x w hr _ _ => .ended fun c K => ?_) fun l G' hl hG' => ?_
    · simp only [unwind, hd, Sem.runT_eq, hr]; rfl
    · exact ⟨_, w, _, by simp only [unwind, hd, Sem.runT_eq, hr]; rfl⟩
    · subst hl
      exact follows_move hG' (.stay { fr with defers := [] ++ ds }) (nm_stay ⟨h.todo, fun x hx => h.defers x (by rw [hd]; simpa using .inr hx), h.kind, .inr hm⟩) fun w K => rfl
  | nil =>
    cases hf : P.funcs[fr.fn]? with
    | none => exact follows_move hG (.pop (fr.tmps.getD 0 undef)) id fun w c K => by simp [unwind, hd, hm, hf, doReturn, h.kind, Conc.G]
    | some fn =>
      refine follows_sem (meek_results fn fr.tmps) hG (fn := fr.fn) (k := fun v w K => doReturn P true fr K none v w) (fun w a w' K hr => ?_) (fun x w hr _ _ => .ended fun c K => ?_) fun v G' _ hG' => ?_
      · simp only [unwind, hd, hm, hf, Sem.runT_eq, hr]
      · cases x <;> exact ⟨_, w, _, by simp only [unwind, hd, hm, hf, Sem.runT_eq, hr]; rfl⟩
      · exact follows_move hG' (.pop v) id fun w c K => by simp [doReturn, h.kind, Conc.G]
end
end Go.Proofs.YtlanlkpamnoekaaDoor.Lk
namespace Go.Proofs.YtlanlkpamnoekaaDoor.Lk
open Go Go.Conc
section
variable {P : Program} {Z : Nat → Prop} {bad : FuncId} {α : Type}

theorem follows_running (hP : NiceP P bad) (hcall : ∀ f args, Meek P False Z (NC P) (NN (NC P)) (callFunc f args)) {fr : Frame} (h : NF P fr) (hm : fr.mode = .run) {G : World} (hG : Inv False Z (NC P) G) :
    Follows P Z bad False (fun w K => stepG P true (Conc.G fr K) w) G := by
  have hs : ∀ w K, stepG P true (Conc.G fr K) w = stepG.exec P true true fr K none w := fun w K => by simp [stepG, Conc.G, hm]
  simp only [hs]
  have stay : ∀ todo, (∀ it ∈ todo, niceItem P it) → (∀ w K, stepG.exec P true true fr K none w = .go (Conc.G { fr with todo } K) w #[]) → Follows P Z bad False (fun w K => stepG.exec P true true fr K none w) G :=
    fun todo ht he => follows_move hG (.stay { fr with todo }) (nm_stay (h.with ht)) fun w K => he w K
  have leave : ∀ jump, (∀ c, jump = some c → niceCode P c = true) →
      (fr.roundOf = none → (∀ w K, stepG.exec P true true fr K none w = .go (Conc.G { fr with mode := .returning } K) w #[]) ∨ ∀ w K, ∃ o w' es, stepG.exec P true true fr K none w = .ended o w' es) →
      (∀ l, fr.roundOf = some l → ∀ w K, (∀ v w', (Instr.endRound l jump).run P w = .ok v w' → stepG.exec P true true fr K none w = GStep.after (seen P fr.fn ((Instr.endRound l jump).events P w #[])) (doReturn P true fr K none v w')) ∧
        ∀ x w', (Instr.endRound l jump).run P w = .halt x w' → ∃ o w'' es, stepG.exec P true true fr K none w = .ended o w'' es) → Follows P Z bad False (fun w K => stepG.exec P true true fr K none w) G :=
    fun jump hj h0 hl => follows_leave h hG jump hj h0 fun l hro => ⟨fun w v w' K hr => (hl l hro w K).1 v w' hr, fun w x w' K hr => (hl l hro w K).2 x w' hr⟩
  have hall := h.todo
  cases ht : fr.todo with
  | nil =>
    refine leave none (fun c hc => by cases hc) (fun hro => .inl fun w K => by simp [stepG.exec, ht, hro, Conc.G]) fun l hro w K => ⟨fun v w' hr => by simp only [stepG.exec, ht, hro, Sem.runT_eq, hr], fun x w' hr => ⟨_, w', _, by simp only [stepG.exec, ht, hro, Sem.runT_eq, hr]; rfl⟩⟩
  | cons it k =>
    rw [ht] at hall
    have hit := hall it (by simp)
    have hk : ∀ x ∈ k, niceItem P x := fun x hx => hall x (by simp [hx])
    have hcons : ∀ y, niceItem P y → ∀ x ∈ y :: k, niceItem P x := fun y hy x hx => by
      simp only [List.mem_cons] at hx
      rcases hx with rfl | hx
      · exact hy
      · exact hk x hx
    have hcons2 : ∀ y z, niceItem P y → niceItem P z → ∀ x ∈ y :: z :: k, niceItem P x := fun y z hy hz x hx => by
      simp only [List.mem_cons] at hx
      rcases hx with rfl | rfl | hx
      · exact hy
      · exact hz
      · exact hk x hx
    cases it with
    | inBlock id => exact stay k hk fun w K => by simp [stepG.exec, ht, Conc.G]
    | inScope b => exact stay k hk fun w K => by simp [stepG.exec, ht, Conc.G]
    | inLoop b => exact stay (.code b :: .inLoop b :: k) (hcons2 _ _ hit hit) fun w K => by simp [stepG.exec, ht, Conc.G]
    | inRangeFunc l => exact follows_ended fun w c K => ⟨_, w, #[], by simp only [stepG.exec, ht]; rfl⟩
    | call d w r s => exact hit.elim
    | extern r s => exact hit.elim
    | endRangeFunc l =>
      refine follows_sem (meek_endLoop l) hG (fn := fr.fn) (k := fun j w K => .go (Conc.G { fr with todo := (j.map Item.code).toList ++ k } K) w #[]) (fun w a w' K hr => ?_) (fun x w hr hf hw => ?_) fun j G' hj hG' => ?_
      · simp only [stepG.exec, ht, Sem.runT_eq, hr]; rfl
      · cases x with
        | panic v => exact .panic False (fr.raise [{ v, recovered := false }]) w (h.raise _) hw fun K => ⟨_, by simp only [stepG.exec, ht, Sem.runT_eq, hr]; rfl⟩
        | _ => exact .ended fun c K => ⟨_, w, _, by simp only [stepG.exec, ht, Sem.runT_eq, hr]; rfl⟩
      · refine follows_move hG' (.stay { fr with todo := (j.map Item.code).toList ++ k }) (nm_stay (h.with fun x hx => ?_)) fun w K => rfl
        simp only [List.mem_append] at hx
        rcases hx with hx | hx
        · cases j with
          | none => simp at hx
          | some c => simp at hx; subst hx; exact hj c rfl
        · exact hk x hx
    | beginRound =>
      have hb : Meek P False Z (NC P) (NN (NC P)) (do fr.roundOf.elim (stuck "beginRound: no round") Instr.beginRound; pure .skip) := by
        cases fr.roundOf with
        | none => exact (Dead.bind Dead.stuck).meek
        | some l => exact Meek.bind (meek_beginRound l) fun _ _ => Meek.pure trivial
      have e : ∀ w K, stepG.exec P true true fr K none w = stepG.apply P true fr K none (do fr.roundOf.elim (stuck "beginRound: no round") Instr.beginRound; pure .skip) w := fun w K => by simp only [stepG.exec, ht]
      simp only [e]
      exact follows_apply hP hb h hG
    | inRegion ops todo =>
      cases todo with
      | nil => exact stay k hk fun w K => by simp [stepG.exec, ht, Conc.G]
      | cons i rest =>
        by_cases hw : (((ops[i]?).map (Region.wanted · (yielded ops fr.tmps))).getD false) = true
        · have e : ∀ w K, stepG.exec P true true fr K none w = stepG.oper P true fr K none w := fun w K => by simp [stepG.exec, ht, hw]
          simp only [e]
          cases ho : ops[i]? with
          | none => rw [ho] at hw; cases hw
          | some o =>
            have hn : niceOp P o.op = true := hit i (by simp) o ho
            have hfo : fr.oper? = some o := by simp [Frame.oper?, ht, ho]
            have e2 : ∀ w K, stepG.oper P true fr K none w = stepG.apply P true fr K none (execOp fr.eval o) w := by
              intro w K
              unfold stepG.oper
              rw [hfo]
              dsimp only
              split
              · rename_i hop; rw [hop] at hn; cases hn
              · rfl
            simp only [e2]
            exact follows_apply hP (meek_execOp id hcall _ o hn) h hG
        · refine follows_move hG (.stay (fr.finish undef)) (nm_stay (h.finish _)) fun w K => by simp [stepG.exec, ht, hw, Conc.G]
    | code c =>
      cases c with
      | skip => exact stay k hk fun w K => by simp [stepG.exec, ht, Conc.G]
      | label l => exact stay k hk fun w K => by simp [stepG.exec, ht, Conc.G]
      | seq a b =>
        simp only [niceItem, niceCode, Bool.and_eq_true] at hit
        exact stay (.code a :: .code b :: k) (hcons2 _ _ hit.1 hit.2) fun w K => by simp [stepG.exec, ht, Conc.G]
      | cond c a b =>
        simp only [niceItem, niceCode, Bool.and_eq_true] at hit
        cases hc : fr.eval c with
        | bool t =>
          refine stay (.code (if t then a else b) :: k) (hcons _ ?_) fun w K => by simp [stepG.exec, ht, hc, Conc.G]
          cases t
          · exact hit.2
          · exact hit.1
        | _ => exact follows_ended fun w c' K => ⟨_, w, #[], by simp only [stepG.exec, ht, hc]; rfl⟩
      | block id c => exact stay (.code c :: .inBlock id :: k) (hcons2 _ _ hit trivial) fun w K => by simp [stepG.exec, ht, Conc.G]
      | loop c => exact stay (.code c :: .inLoop c :: k) (hcons2 _ _ hit hit) fun w K => by simp [stepG.exec, ht, Conc.G]
      | scope c => exact stay (.code c :: .inScope c :: k) (hcons2 _ _ hit hit) fun w K => by simp [stepG.exec, ht, Conc.G]
      | refuse why => exact follows_ended fun w c' K => ⟨_, w, #[], by simp only [stepG.exec, ht]; rfl⟩
      | ret => refine leave (some .ret) (fun c hc => by cases hc; rfl) (fun hro => .inl fun w K => by simp [stepG.exec, ht, hro, Conc.G]) fun l hro w K => ⟨fun v w' hr => by simp only [stepG.exec, ht, hro, Sem.runT_eq, hr], fun x w' hr => ⟨_, w', _, by simp only [stepG.exec, ht, hro, Sem.runT_eq, hr]; rfl⟩⟩
      | exit id =>
        cases he : exitTo id k with
        | some k' => exact stay k' (nice_exitTo id k k' he hk) fun w K => by simp [stepG.exec, ht, he, Conc.G]
        | none => refine leave (some (.exit id)) (fun c hc => by cases hc; rfl) (fun hro => .inr fun w K => ⟨_, w, #[], by simp [stepG.exec, ht, he, hro]; rfl⟩) fun l hro w K => ⟨fun v w' hr => by simp only [stepG.exec, ht, hro, he, Option.elim_none, Sem.runT_eq, hr], fun x w' hr => ⟨_, w', _, by simp only [stepG.exec, ht, hro, he, Option.elim_none, Sem.runT_eq, hr]; rfl⟩⟩
      | goto l =>
        cases he : gotoIn l k with
        | some k' => exact stay k' (nice_gotoIn l k k' he hk) fun w K => by simp [stepG.exec, ht, he, Conc.G]
        | none => refine leave (some (.goto l)) (fun c hc => by cases hc; rfl) (fun hro => .inr fun w K => ⟨_, w, #[], by simp [stepG.exec, ht, he, hro]; rfl⟩) fun l hro w K => ⟨fun v w' hr => by simp only [stepG.exec, ht, hro, he, Option.elim_none, Sem.runT_eq, hr], fun x w' hr => ⟨_, w', _, by simp only [stepG.exec, ht, hro, he, Option.elim_none, Sem.runT_eq, hr]; rfl⟩⟩
      | region id ops draw =>
        simp only [niceItem, niceCode, List.all_eq_true] at hit
        have hreg : ∀ l, niceItem P (.inRegion ops l) := fun l i _ o ho => hit o (by rw [Array.mem_toList_iff]; exact Array.mem_of_getElem? ho)
        cases draw with
        | false => exact stay (.inRegion ops (List.range ops.size) :: k) (hcons _ (hreg _)) fun w K => by simp [stepG.exec, ht, Conc.G]
        | true =>
          refine follows_sem (Meek.choose (.order fr.fn id)) hG (fn := fr.fn) (k := fun t w K => .go (Conc.G { fr with todo := .inRegion ops (Region.schedule (P.follows .mixedOrders) ops t) :: k } K) w #[]) (fun w a w' K hr => ?_) (fun x w hr hf hw => .ended fun c K => ?_) fun t G' _ hG' => follows_move hG' (.stay { fr with todo := .inRegion ops (Region.schedule (P.follows .mixedOrders) ops t) :: k }) (nm_stay (h.with (hcons _ (hreg _)))) fun w K => rfl
          · have : (choose (.order fr.fn id)).events P w #[] = #[] := rfl
            rw [this, seen_none, after_nil]
            simp [stepG.exec, ht, hr, Conc.G]
          · exact ⟨_, w, #[], by simp only [stepG.exec, ht, hr]; rfl⟩
      | rangeFunc f ps assign body =>
        simp only [niceItem, niceCode, Bool.and_eq_true] at hit
        have hnf : ∀ (l : Nat) (mark : List Deferred), marks mark → NF P { fr with todo := .inRangeFunc l :: k, defers := mark ++ fr.defers } := fun l mark hmk => ⟨hcons _ trivial, fun d hd => by
          rcases List.mem_append.1 hd with hd | hd
          · exact hmk d hd
          · exact h.defers d hd, h.kind, h.mode⟩
        refine follows_sem (meek_enterLoop fr.fn fr.tmps ps assign body fr.roundOf hit.1 hit.2) hG (fn := fr.fn)
          (k := fun x w K => stepG.apply P true { fr with todo := .inRangeFunc x.1 :: k, defers := x.2 ++ fr.defers } K none (resolve fr.eval { callee := .value f, args := #[.const (.func (.yield x.1) #[] #[])], argTypes := #[] } 0 >>= fun d => invoke d.target d.args) w)
          (fun w a w' K hr => ?_) (fun x w hr _ _ => .ended fun c K => ?_) fun x G' hx hG' => ?_
        · simp only [stepG.exec, ht, Sem.runT_eq, hr]; rfl
        · exact ⟨_, w, _, by simp only [stepG.exec, ht, Sem.runT_eq, hr]; rfl⟩
        · exact follows_apply hP (Meek.bind (meek_resolve _ _ _ trivial) fun d hd => meek_invoke id hcall _ _ hd) (hnf x.1 x.2 hx) hG'

/-- ████ ONE STEP: the same move on the ghost world and on the true one, or a dead end. ████ -/
theorem follows_step (hP : NiceP P bad) (hcall : ∀ f args, Meek P False Z (NC P) (NN (NC P)) (callFunc f args)) {fr : Frame} (h : NF P fr) {G : World} (hG : Inv False Z (NC P) G) :
    Follows P Z bad False (fun w K => stepG P true (Conc.G fr K) w) G :=
  h.mode.elim (fun hm => follows_running hP hcall h hm hG) fun hm => follows_returning h hm hG
end
end Go.Proofs.YtlanlkpamnoekaaDoor.Lk
namespace Go.Proofs.YtlanlkpamnoekaaDoor.Lk
open Go Go.Conc
section
variable {P : Program} {Z : Nat → Prop} {bad : FuncId} {α : Type}

theorem bm_stay {f : Frame} (h : BF f) : NM P bad True (.stay f) := ⟨fun h => absurd trivial h, fun _ => h⟩
theorem BF.with {fr : Frame} (h : BF fr) {todo : List Item} (ht : PreL todo) : BF { fr with todo } := ⟨.inl ht, h.defers, h.kind, h.mode, h.round⟩
theorem BF.raise {fr : Frame} (h : BF fr) (ch : List PanicEntry) : PF (fr.raise ch) := by
  unfold Frame.raise
  split
  · exact ⟨h.defers, _, rfl⟩
  · exact ⟨h.defers, _, rfl⟩
theorem finish_reg {fr : Frame} {ops : Array Oper} {i : Nat} {l : List Nat} {k : List Item} (ht : fr.todo = .inRegion ops (i :: l) :: k) (v : Value) :
    fr.finish v = { fr with tmps := (match (ops[i]?).bind (·.dst) with | some d => fr.tmps.setIfInBounds d v | none => fr.tmps), todo := .inRegion ops l :: k } := by
  unfold Frame.finish
  rw [ht]
  rfl

/-- An operation of the frame's that yields a value, or nothing. -/
theorem follows_pre_op {fr : Frame} (h : BF fr) {G : World} (hG : Inv True Z (NC P) G) {s : Sem Next} (hs : Meek P True Z (NC P) (fun n => (∃ v, n = .value v) ∨ n = .skip) s)
    (hf : ∀ v, BF (fr.finish v)) : Follows P Z bad True (fun w K => stepG.apply P true fr K none s w) G := by
  have hearly : (fr.kind == CallKind.early) = false := by rw [h.kind]; rfl
  have hsn : seen P fr.fn #[] = #[] := seen_none _ _
  refine follows_sem hs hG (fn := fr.fn) (k := fun n w K => stepG.apply P true fr K none (Sem.pure n) w) (fun w a w' K hr => ?_) (fun x w hr hfi hw => ?_) (fun a G' hN hG' => ?_)
  · have h0 : s.runT P w #[] = (.ok a w', s.events P w #[]) := by rw [Sem.runT_eq, hr]
    have h1 : (Sem.pure a : Sem Next).runT P w' #[] = (.ok a w', #[]) := rfl
    simp only [stepG.apply, h0, h1, if_true, hearly, if_false, Bool.false_eq_true, hsn, after_nil]
  · have h0 : s.runT P G #[] = (.halt x w, s.events P G #[]) := by rw [Sem.runT_eq, hr]
    cases x with
    | panic v => exact .panic True (fr.raise [{ v, recovered := false }]) w (h.raise _) hw fun K => ⟨_, by simp only [stepG.apply, h0, if_true, hearly, if_false, Bool.false_eq_true]; rfl⟩
    | stuck why => exact .ended fun c K => ⟨_, w, _, by simp only [stepG.apply, h0, if_true, hearly, if_false, Bool.false_eq_true]; rfl⟩
    | unsupported u =>
      refine .ended fun c K => ⟨.unsupported u (fr.pos P), w, seen P fr.fn (s.events P G #[]), ?_⟩
      cases u <;> first | exact absurd rfl (hfi _) | (simp only [stepG.apply, h0, if_true, hearly, if_false, Bool.false_eq_true, GStep.after, Array.append_empty]; done)
    | _ => exact hfi.elim
  · rcases hN with ⟨v, rfl⟩ | rfl
    · exact follows_move hG' (.stay (fr.finish v)) (bm_stay (hf v)) fun w K => by simp [stepG.apply, Sem.runT, hearly, hsn, Conc.G, GStep.after, -Sem.runT_eq]
    · exact follows_move hG' (.stay (fr.finish undef)) (bm_stay (hf _)) fun w K => by simp [stepG.apply, Sem.runT, hearly, hsn, Conc.G, GStep.after, -Sem.runT_eq]

/-- The step of an operation that is carried out. -/
theorem exec_oper {fr : Frame} {ops : Array Oper} {i : Nat} {l : List Nat} {k : List Item} {o : Oper} (ht : fr.todo = .inRegion ops (i :: l) :: k) (ho : ops[i]? = some o) (hw : Region.wanted o (yielded ops fr.tmps) = true) (hr : fr.roundOf = none) (w : World) (K : List Frame) :
    stepG.exec P true true fr K none w = stepG.apply P true fr K none (execOp fr.eval o) w := by
  have hw' : (((ops[i]?).map (Region.wanted · (yielded ops fr.tmps))).getD false) = true := by rw [ho]; exact hw
  have e : stepG.exec P true true fr K none w = stepG.oper P true fr K none w := by simp [stepG.exec, ht, hw']
  rw [e]
  unfold stepG.oper
  have hfo : fr.oper? = some o := by simp [Frame.oper?, ht, ho]
  rw [hfo]
  dsimp only
  rw [hr]

/-- ████ ONE STEP ON THE WAY TO A go STATEMENT. ████ -/
theorem follows_pre {fr : Frame} (h : BF fr) {G : World} (hG : Inv True Z (NC P) G) : Follows P Z bad True (fun w K => stepG P true (Conc.G fr K) w) G := by
  have hs : ∀ w K, stepG P true (Conc.G fr K) w = stepG.exec P true true fr K none w := fun w K => by simp [stepG, Conc.G, h.mode]
  simp only [hs]
  have stay : ∀ todo, PreL todo → (∀ w K, stepG.exec P true true fr K none w = .go (Conc.G { fr with todo } K) w #[]) → Follows P Z bad True (fun w K => stepG.exec P true true fr K none w) G :=
    fun todo ht he => follows_move hG (.stay { fr with todo }) (bm_stay (h.with ht)) fun w K => he w K
  rcases h.todo with hp | ⟨ops, k, og, t, c, ht, hg, hg1, hg2, hc, hv⟩
  · generalize ht : fr.todo = todo at hp
    cases hp with
    | reg ops l k hops hk =>
      cases l with
      | nil => exact stay k hk fun w K => by simp [stepG.exec, ht, Conc.G]
      | cons i l =>
        have hreg : ∀ v, BF (fr.finish v) := fun v => by
          rw [finish_reg ht]
          exact ⟨.inl (.reg ops l k (fun j hj => hops j (by simp [hj])) hk), h.defers, h.kind, h.mode, h.round⟩
        by_cases hw : (((ops[i]?).map (Region.wanted · (yielded ops fr.tmps))).getD false) = true
        · cases ho : ops[i]? with
          | none => rw [ho] at hw; cases hw
          | some o =>
            rw [ho] at hw
            have e : ∀ w K, stepG.exec P true true fr K none w = stepG.apply P true fr K none (execOp fr.eval o) w := exec_oper ht ho hw h.round
            simp only [e]
            exact follows_pre_op h hG (meek_preOp trivial _ o (hops i (by simp) o ho)) hreg
        · exact follows_move hG (.stay (fr.finish undef)) (bm_stay (hreg _)) fun w K => by simp [stepG.exec, ht, hw, Conc.G]
    | code id ops d k hops hk =>
      cases d with
      | false => exact stay (.inRegion ops (List.range ops.size) :: k) (.reg _ _ _ (fun i _ => hops i) hk) fun w K => by simp [stepG.exec, ht, Conc.G]
      | true =>
        refine follows_sem (Meek.choose (.order fr.fn id)) hG (fn := fr.fn) (k := fun t w K => .go (Conc.G { fr with todo := .inRegion ops (Region.schedule (P.follows .mixedOrders) ops t) :: k } K) w #[]) (fun w a w' K hr => ?_) (fun x w hr hf hw => .ended fun c K => ?_) fun t G' _ hG' => follows_move hG' (.stay { fr with todo := .inRegion ops (Region.schedule (P.follows .mixedOrders) ops t) :: k }) (bm_stay (h.with (.reg _ _ _ (fun i _ => hops i) hk))) fun w K => rfl
        · have : (choose (.order fr.fn id)).events P w #[] = #[] := rfl
          rw [this, seen_none, after_nil]
          simp [stepG.exec, ht, hr, Conc.G]
        · exact ⟨_, w, #[], by simp only [stepG.exec, ht, hr]; rfl⟩
    | seq a b k hk => exact stay (.code a :: .code b :: k) hk fun w K => by simp [stepG.exec, ht, Conc.G]
    | goC id ops k om og t fn x y c hsz hm hm1 hm2 hm3 hg hg1 hg2 hc =>
      refine stay (.inRegion ops [0, 1] :: k) (.go2 ops k om og t fn x y c hm hm1 hm2 hm3 hg hg1 hg2 hc) fun w K => ?_
      have : List.range ops.size = [0, 1] := by rw [hsz]; rfl
      simp [stepG.exec, ht, Conc.G, this]
    | go2 ops k om og t fn x y c hm hm1 hm2 hm3 hg hg1 hg2 hc =>
      have e : ∀ w K, stepG.exec P true true fr K none w = stepG.apply P true fr K none (execOp fr.eval om) w := exec_oper ht hm (by simp [Region.wanted, hm2]) h.round
      have e2 : execOp fr.eval om = pure (Next.value (.func fn (x.map fr.eval) (y.map fr.eval))) := by
        unfold execOp Instr.makeFunc
        rw [hm1]
        rfl
      have hearly : (fr.kind == CallKind.early) = false := by rw [h.kind]; rfl
      have hsn : seen P fr.fn #[] = #[] := seen_none _ _
      simp only [e, e2]
      refine follows_move hG (.stay (fr.finish (.func fn (x.map fr.eval) (y.map fr.eval)))) (bm_stay ?_) fun w K => by simp [stepG.apply, Sem.run_pure, hearly, hsn, Conc.G, GStep.after]
      rw [finish_reg ht]
      refine ⟨.inr ⟨ops, k, og, t, c, rfl, hg, hg1, hg2, hc, ?_⟩, h.defers, h.kind, h.mode, h.round⟩
      simp only [hm, Option.bind_some, hm3]
      by_cases hlt : t < fr.tmps.size
      · exact .inl ⟨fn, x.map fr.eval, y.map fr.eval, by simp [Array.getD, hlt]⟩
      · exact .inr (by simp [Array.getD, hlt])
  · have e : ∀ w K, stepG.exec P true true fr K none w = stepG.apply P true fr K none (execOp fr.eval og) w := exec_oper ht hg (by simp [Region.wanted, hg2]) h.round
    have hearly : (fr.kind == CallKind.early) = false := by rw [h.kind]; rfl
    have hsn : seen P fr.fn #[] = #[] := seen_none _ _
    simp only [e]
    have hev : fr.eval (.tmp t) = fr.tmps.getD t undef := rfl
    rcases hv with ⟨fn, a, b, hv⟩ | hv
    · refine .inl (.spawn fun K => ?_)
      have e2 : execOp fr.eval og = pure (Next.spawn { target := .fn fn b, args := a ++ c.args.map fr.eval }) := by
        unfold execOp resolve Deferred.ofValue
        rw [hg1]
        dsimp only
        rw [hc]
        dsimp only
        rw [hev, hv]
        rfl
      simp [e2, stepG.apply, Sem.run_pure, hearly, hsn, GStep.after]
    · refine .inl (.ended fun c' K => ?_)
      have e2 : ∀ w, (execOp fr.eval og).run P w = .halt (.stuck "call: function value expected") w := by
        intro w
        unfold execOp resolve Deferred.ofValue
        rw [hg1]
        dsimp only
        rw [hc]
        dsimp only
        rw [hev, hv]
        rfl
      simp [e2, stepG.apply, hearly, GStep.after]
end
end Go.Proofs.YtlanlkpamnoekaaDoor.Lk
namespace Go.Proofs.YtlanlkpamnoekaaDoor.Lk
open Go Go.Conc

/-- The frame at the stack's foot: whatever comes down to it ends. -/
def c0 : Frame := { fn := 0, tmps := #[], todo := [.code (.refuse "foot")], defers := [{ target := .nil, args := #[] }], mode := .run, kind := .normal }

section
variable {P : Program} {Z : Nat → Prop} {bad : FuncId} {T : Frame → List Frame → World → Prop}

/-- From this machine the run never comes to what T asks. -/
def Never (P : Program) (T : Frame → List Frame → World → Prop) (m : Machine) : Prop :=
  ∀ n f fs w, runN P n m = .next (lone f (fs ++ [c0]) w) → ¬ T f fs w

theorem never_ended {m : Machine} (h : ∃ o w, step P m = .ended o w) (h0 : ∀ f fs w, m = lone f (fs ++ [c0]) w → ¬ T f fs w) : Never P T m := by
  obtain ⟨o, w, h⟩ := h
  intro n f fs w' hn
  cases n with
  | zero => simp only [runN, Stepped.next.injEq] at hn; exact h0 f fs w' hn
  | succ n => simp only [runN, h] at hn; cases hn
theorem never_next {m m' : Machine} (h : step P m = .next m') (h' : Never P T m') (h0 : ∀ f fs w, m = lone f (fs ++ [c0]) w → ¬ T f fs w) : Never P T m := by
  intro n f fs w' hn
  cases n with
  | zero => simp only [runN, Stepped.next.injEq] at hn; exact h0 f fs w' hn
  | succ n => simp only [runN, h] at hn; exact h' n f fs w' hn

theorem lone_inj {f f' : Frame} {K K' : List Frame} {w w' : World} (h : lone f K w = lone f' K' w') : f = f' ∧ K = K' ∧ w = w' := by
  simp only [lone, Machine.mk.injEq, Array.mk.injEq, List.cons.injEq, Goroutine.mk.injEq, and_true] at h
  exact ⟨h.2.1, h.2.2, h.1⟩
theorem app_foot {fs fs' : List Frame} (h : fs ++ [c0] = fs' ++ [c0]) : fs = fs' := List.append_cancel_right h

theorem step_go {f f' : Frame} {K K' : List Frame} {w w' : World} {es : Array Event} (h : stepG P true (Conc.G f K) w = .go (Conc.G f' K') w' es) : step P (lone f K w) = .next (lone f' K' w') :=
  step_lone_go (by unfold Conc.G at h; rw [h]; rfl)
theorem step_ended {f : Frame} {K : List Frame} {w w' : World} {o : Outcome} {es : Array Event} (h : stepG P true (Conc.G f K) w = .ended o w' es) : step P (lone f K w) = .ended o w' :=
  step_lone_ended (by unfold Conc.G at h; rw [h]; rfl)

/-! ### a panic -/
/-- What a panic leaves of the frames below: each only marks deferred. -/
theorem never_panic (hT : ∀ f fs w, T f fs w → ∀ ch, f.mode ≠ .panicking ch) {q : Prop} : ∀ (fs : List Frame) (f : Frame) (w : World), PF f → (∀ g ∈ fs, NF P g) → Inv q Z (NC P) w → Never P T (lone f (fs ++ [c0]) w) := by
  intro fs
  induction fs with
  | nil =>
    intro f w hf _ hw
    -- the frame's own marks first
    generalize hn : f.defers.length = n
    induction n generalizing f w with
    | zero =>
      have hd : f.defers = [] := List.eq_nil_of_length_eq_zero hn
      obtain ⟨ch, hm⟩ := hf.mode
      have h0 : ∀ f' fs' w', lone f ([] ++ [c0]) w = lone f' (fs' ++ [c0]) w' → ¬ T f' fs' w' := fun f' fs' w' e ht => by
        obtain ⟨rfl, _, _⟩ := lone_inj e
        exact hT _ _ _ ht ch hm
      by_cases hc : f.catches P = true
      · exact never_ended ⟨_, w, step_ended (by simp [stepG, Conc.G, hm, unwind, hd, hc]; exact ⟨rfl, rfl⟩)⟩ h0
      · refine never_next (step_go (f' := c0.raise ch) (K' := []) (w' := w) (es := #[]) (by simp [stepG, Conc.G, hm, unwind, hd, hc])) ?_ h0
        refine never_ended ⟨_, w, step_ended (by simp [stepG, Conc.G, Frame.raise, c0, unwind, callDeferred]; exact ⟨rfl, rfl⟩)⟩ fun f' fs' w' e => ?_
        obtain ⟨_, e, _⟩ := lone_inj e
        simp at e
    | succ n ih =>
      obtain ⟨ch, hm⟩ := hf.mode
      have h0 : ∀ f' fs' w', lone f ([] ++ [c0]) w = lone f' (fs' ++ [c0]) w' → ¬ T f' fs' w' := fun f' fs' w' e ht => by
        obtain ⟨rfl, _, _⟩ := lone_inj e
        exact hT _ _ _ ht ch hm
      cases hd : f.defers with
      | nil => rw [hd] at hn; cases hn
      | cons d ds =>
        obtain ⟨b, rfl⟩ := hf.defers d (by rw [hd]; simp)
        rcases meek_takeDeferred (P := P) b w hw with ⟨h, w', hr, _, _⟩ | ⟨l, w', k, hr, rfl, hw', _⟩
        · exact never_ended ⟨_, w', step_ended (es := seen P f.fn ((Instr.takeDeferred b).events P w #[])) (by simp only [stepG, Conc.G, hm, unwind, hd, Sem.runT_eq, hr]; simp [GStep.after]; rfl)⟩ h0
        · refine never_next (step_go (f' := { f with defers := [] ++ ds }) (K' := [] ++ [c0]) (w' := w') (es := _) (by simp only [stepG, Conc.G, hm, unwind, hd, Sem.runT_eq, hr]; rfl)) ?_ h0
          refine ih _ w' ⟨fun x hx => hf.defers x (by rw [hd]; simpa using .inr hx), ch, hm⟩ hw' (by rw [hd] at hn; simpa using hn)
  | cons g fs ihf =>
    intro f w hf hfs hw
    generalize hn : f.defers.length = n
    induction n generalizing f w with
    | zero =>
      have hd : f.defers = [] := List.eq_nil_of_length_eq_zero hn
      obtain ⟨ch, hm⟩ := hf.mode
      have h0 : ∀ f' fs' w', lone f ((g :: fs) ++ [c0]) w = lone f' (fs' ++ [c0]) w' → ¬ T f' fs' w' := fun f' fs' w' e ht => by
        obtain ⟨rfl, _, _⟩ := lone_inj e
        exact hT _ _ _ ht ch hm
      by_cases hc : f.catches P = true
      · exact never_ended ⟨_, w, step_ended (by simp [stepG, Conc.G, hm, unwind, hd, hc]; exact ⟨rfl, rfl⟩)⟩ h0
      · refine never_next (step_go (f' := g.raise ch) (K' := fs ++ [c0]) (w' := w) (es := #[]) (by simp [stepG, Conc.G, hm, unwind, hd, hc])) ?_ h0
        exact ihf _ w ((hfs g (by simp)).raise ch) (fun x hx => hfs x (by simp [hx])) hw
    | succ n ih =>
      obtain ⟨ch, hm⟩ := hf.mode
      have h0 : ∀ f' fs' w', lone f ((g :: fs) ++ [c0]) w = lone f' (fs' ++ [c0]) w' → ¬ T f' fs' w' := fun f' fs' w' e ht => by
        obtain ⟨rfl, _, _⟩ := lone_inj e
        exact hT _ _ _ ht ch hm
      cases hd : f.defers with
      | nil => rw [hd] at hn; cases hn
      | cons d ds =>
        obtain ⟨b, rfl⟩ := hf.defers d (by rw [hd]; simp)
        rcases meek_takeDeferred (P := P) b w hw with ⟨h, w', hr, _, _⟩ | ⟨l, w', k, hr, rfl, hw', _⟩
        · exact never_ended ⟨_, w', step_ended (es := seen P f.fn ((Instr.takeDeferred b).events P w #[])) (by simp only [stepG, Conc.G, hm, unwind, hd, Sem.runT_eq, hr]; simp [GStep.after]; rfl)⟩ h0
        · refine never_next (step_go (f' := { f with defers := [] ++ ds }) (K' := (g :: fs) ++ [c0]) (w' := w') (es := _) (by simp only [stepG, Conc.G, hm, unwind, hd, Sem.runT_eq, hr]; rfl)) ?_ h0
          refine ih _ w' ⟨fun x hx => hf.defers x (by rw [hd]; simpa using .inr hx), ch, hm⟩ hw' (by rw [hd] at hn; simpa using hn)

/-! ### a go statement -/
theorem never_two {m : Machine} (h : 2 ≤ m.gs.size) : Never P T m := by
  intro n f fs w hn _
  have e : runNT P n m #[] = (.next (lone f (fs ++ [c0]) w), (runNT P n m #[]).2) := Prod.ext (by rw [runNT_fst, hn]) rfl
  have := runNT_size P n m _ _ _ e
  simp [lone] at this
  omega
theorem never_spawn {f : Frame} {K : List Frame} {w : World} {g c : Goroutine} {w' : World} {es : Array Event} (h : stepG P true (Conc.G f K) w = .spawn g c w' es) (h0 : ∀ f' fs' w', lone f K w = lone f' (fs' ++ [c0]) w' → ¬ T f' fs' w') : Never P T (lone f K w) := by
  unfold Conc.G at h
  refine never_next (m' := { world := w', gs := (#[({ (default : Goroutine) with status := .finished })].setIfInBounds 0 g).push c, rest := { timers := #[], alone := none, slice := none } }) ?_ (never_two (by simp)) h0
  rw [step, stepT, move_lone]
  simp [runT, lone, Array.swapAt!, h]
end
end Go.Proofs.YtlanlkpamnoekaaDoor.Lk
namespace Go.Proofs.YtlanlkpamnoekaaDoor.Lk
open Go Go.Conc
section
variable {P : Program} {Z : Nat → Prop} {bad : FuncId} {T : Frame → List Frame → World → Prop}

theorem step_parked (g : Goroutine) (cs : Array CommCase) (sh : CommShape) (w : World) : ∃ o w', step P (crowd #[parked g cs sh] w none) = .ended o w' := by
  have : ∃ (o : Outcome) (w' : World) (ops : Array MemOp), move P (crowd #[parked g cs sh] w none) = .machine (.ended o w') ops := by
    simp [move, ask, askOn, crowd, parked, runnable_eq, due, ahead, Goroutine.canRun, List.range_succ, choose, pure, Sem.run, Question.forced]
    split
    · exact ⟨_, _, _, rfl⟩
    · exact ⟨_, _, _, rfl⟩
  obtain ⟨o, w', ops, h⟩ := this
  exact ⟨o, w', by rw [step, stepT, h]⟩

theorem never_waits {f f' : Frame} {K : List Frame} {w w' : World} {cs : Array CommCase} {sh : CommShape} {es : Array Event} (hw : Inv False Z (NC P) w') (h : stepG P true (Conc.G f K) w = .comm (Conc.G f' K) cs true sh w' es)
    (hl : ∀ g fs w₁, lone f K w = lone g (fs ++ [c0]) w₁ → ¬ T g fs w₁) : Never P T (lone f K w) := by
  have hst : step P (lone f K w) = (runT P (crowd #[Conc.G f K] w none) 0).1 := by
    rw [step, stepT, move_lone]
    rfl
  have hcomm := runT_crowd_comm (P := P) (gs := #[Conc.G f K]) (w := w) (sl := none) (i := 0) (g := Conc.G f K) rfl (show stepG P (0 == 0) (Conc.G f K) w = _ from h)
  by_cases hill : cs.any (illMade w') = true
  · refine never_ended ?_ hl
    rw [hst, hcomm]
    unfold communicate
    dsimp only
    rw [if_pos]
    · exact ⟨_, _, rfl⟩
    · exact hill
  · have hno : ∀ cc ∈ cs, NoWays w' ((#[Conc.G f K] : Array Goroutine).setIfInBounds 0 ph) cc := by
      intro cc hcc
      have hm : illMade w' cc = false := by
        cases hx : illMade w' cc with
        | false => rfl
        | true => exact absurd (Array.any_eq_true'.2 ⟨cc, hcc, hx⟩) hill
      have hch : cc.chan = .chan none := by
        unfold illMade at hm
        split at hm
        · assumption
        · rename_i r hr
          cases hb : w'.heap[r]? with
          | none => rw [hb] at hm; cases hm
          | some o =>
            rw [hb] at hm
            cases o <;> first | exact (hw.ok _ _ hb : False).elim | cases hm
        · cases hm
      refine ⟨hm, ?_⟩
      unfold ways
      rw [hch]
    have hwait := crowd_waits (P := P) (gs := #[Conc.G f K]) (w := w) (sl := none) (i := 0) (g := Conc.G f K) rfl (show stepG P (0 == 0) (Conc.G f K) w = _ from h) hno
    refine never_next (m' := crowd #[parked (Conc.G f' K) cs sh] w' none) (by rw [hst, hwait]; rfl) ?_ hl
    obtain ⟨o, w2, hs⟩ := step_parked (P := P) (Conc.G f' K) cs sh w'
    refine never_ended ⟨o, w2, hs⟩ fun g fs w₁ e => ?_
    have := congrArg (fun m : Machine => (m.gs[0]?).map (·.status)) e
    simp [crowd, lone, parked] at this

/-- ████ NO DEAD END WINS. ████ -/
theorem never_dead (hT : ∀ f fs w, T f fs w → ∀ ch, f.mode ≠ .panicking ch) {f : Frame} {fs : List Frame} {w : World} (hfs : ∀ g ∈ fs, NF P g) (h : DeadR P Z fun K => stepG P true (Conc.G f K) w) (h0 : ¬ T f fs w) : Never P T (lone f (fs ++ [c0]) w) := by
  have hl : ∀ g fs' w₁, lone f (fs ++ [c0]) w = lone g (fs' ++ [c0]) w₁ → ¬ T g fs' w₁ := fun g fs' w₁ e => by
    obtain ⟨rfl, e2, rfl⟩ := lone_inj e
    obtain rfl := app_foot e2
    exact h0
  cases h with
  | ended h =>
    have : ∃ c K, fs ++ [c0] = c :: K := by cases fs <;> exact ⟨_, _, rfl⟩
    obtain ⟨c, K, e⟩ := this
    obtain ⟨o, w', es, he⟩ := h c K
    rw [e] at hl ⊢
    exact never_ended ⟨o, w', step_ended he⟩ hl
  | panic q f' w' hf hw h =>
    obtain ⟨es, he⟩ := h (fs ++ [c0])
    exact never_next (step_go he) (never_panic hT fs f' w' hf hfs hw) hl
  | waits f' w' hw cs sh h =>
    obtain ⟨es, he⟩ := h (fs ++ [c0])
    exact never_waits hw he hl
  | spawn h =>
    obtain ⟨g, c, w', es, he⟩ := h (fs ++ [c0])
    exact never_spawn he hl
/-- What comes down to the foot ends. -/
theorem never_foot (v : Value) (w : World) : Never P T (lone (c0.finish v) [] w) :=
  never_ended ⟨_, w, step_ended (by simp [stepG, Conc.G, c0, Frame.finish, stepG.exec]; exact ⟨rfl, rfl⟩)⟩ fun g fs w₁ e => by
    obtain ⟨_, e, _⟩ := lone_inj e
    simp at e
end
end Go.Proofs.YtlanlkpamnoekaaDoor.Lk
namespace Go.Proofs.YtlanlkpamnoekaaDoor.Lk
open Go Go.Conc

def re (G : World) (τ : Tape) (d : Nat) : World := { G with tape := τ, drawn := d }
def Mv.app : Mv → List Frame → Option (Frame × List Frame)
  | .stay f, fs => some (f, fs)
  | .push f f', fs => some (f, f' :: fs)
  | .pop v, c :: fs => some (c.finish v, fs)
  | .pop _, [] => none

/-- What the program is to be. -/
structure Fit (P : Program) (bad : FuncId) (Z : Nat → Prop) : Prop where
  nice : NiceP P bad
  call : ∀ f args, Meek P False Z (NC P) (NN (NC P)) (callFunc f args)
  pre : ∀ args, BF (Frame.enter P bad args .normal)
/-- What T is to be: blind to the tape; no frame that a panic goes through. -/
structure Aim (T : Frame → List Frame → World → Prop) : Prop where
  re : ∀ f fs G τ d, T f fs G → T f fs (re G τ d)
  calm : ∀ f fs w, T f fs w → ∀ ch, f.mode ≠ .panicking ch

/-- The state: the frames' code is of the listed kinds, or the topmost is on its way to the go statement. -/
def SI (P : Program) (Z : Nat → Prop) (f : Frame) (fs : List Frame) (G : World) : Prop :=
  (∀ g ∈ fs, NF P g) ∧ ((NF P f ∧ Inv False Z (NC P) G) ∨ (BF f ∧ Inv True Z (NC P) G))

def Wins (P : Program) (T : Frame → List Frame → World → Prop) (f : Frame) (fs : List Frame) (G : World) : Prop :=
  ∃ n f' fs' w', runN P n (lone f (fs ++ [c0]) G) = .next (lone f' (fs' ++ [c0]) w') ∧ T f' fs' w'

def Lock (P : Program) (Z : Nat → Prop) (f : Frame) (mv : Mv) (n : Nat) (G G' : World) : Prop :=
  ∀ A, Rel Z G A → Agree n G A → ∃ A' es, Acts (fun K => stepG P true (Conc.G f K) A) mv A' es ∧ Rel Z G' A' ∧ A'.tape = A.tape ∧ A'.drawn = A.drawn + n ∧ (∀ i : Nat, Z i → A'.heap[i]? = A.heap[i]?) ∧ ∀ e ∈ es, EvA Z e

section
variable {P : Program} {Z : Nat → Prop} {bad : FuncId} {T : Frame → List Frame → World → Prop}

theorem okObj_mono {C : Code → Prop} {o : Obj} (h : OkObj False C o) : OkObj True C o := by
  unfold OkObj at *
  split at h <;> first | exact h | trivial | exact h.elim
theorem Inv.up {G : World} (h : Inv False Z (NC P) G) : Inv True Z (NC P) G := ⟨fun i o ho => okObj_mono (h.ok i o ho), h.bare⟩
theorem Inv.re {q : Prop} {G : World} (h : Inv q Z (NC P) G) (τ : Tape) (d : Nat) : Inv q Z (NC P) (re G τ d) := ⟨h.ok, h.bare⟩
theorem SI.re {f : Frame} {fs : List Frame} {G : World} (h : SI P Z f fs G) (τ : Tape) (d : Nat) : SI P Z f fs (re G τ d) := ⟨h.1, h.2.imp (fun x => ⟨x.1, x.2.re τ d⟩) fun x => ⟨x.1, x.2.re τ d⟩⟩
theorem Inv.bares {q : Prop} {G : World} (h : Inv q Z (NC P) G) : ∀ i : Nat, Z i → (∃ t f, G.heap[i]? = some (.cells #[] t f)) ∨ G.heap[i]? = some (.coro none) ∨ ∃ c t, G.heap[i]? = some (iced c t) := h.bare
theorem rel_refl {G : World} (h : ∀ i : Nat, Z i → (∃ t f, G.heap[i]? = some (.cells #[] t f)) ∨ G.heap[i]? = some (.coro none) ∨ ∃ c t, G.heap[i]? = some (iced c t)) (τ : Tape) (d : Nat) : Rel Z G (Lk.re G τ d) :=
  ⟨rfl, fun _ _ => rfl, fun i hi => (h i hi).imp (fun ⟨t, f, e⟩ => ⟨t, f, #[], e, e⟩) fun x => x.imp (fun e => ⟨_, e, e, trivial⟩) fun ⟨c, t, e⟩ => ⟨c, t, (0, c.size), e, e⟩, rfl, rfl⟩
theorem SI.bares {f : Frame} {fs : List Frame} {G : World} (h : SI P Z f fs G) : ∀ i : Nat, Z i → (∃ t f, G.heap[i]? = some (.cells #[] t f)) ∨ G.heap[i]? = some (.coro none) ∨ ∃ c t, G.heap[i]? = some (iced c t) := h.2.elim (fun x => x.2.bare) fun x => x.2.bare

theorem Acts.det {r : List Frame → GStep} {mv : Mv} {w w' : World} {es es' : Array Event} (h : Acts r mv w es) (h' : Acts r mv w' es') : w = w' := by
  cases mv with
  | stay f => have := (h []).symm.trans (h' []); injection this
  | push f f' => have := (h []).symm.trans (h' []); injection this
  | pop v => have := (h c0 []).symm.trans (h' c0 []); injection this
theorem Acts.step {f f' : Frame} {fs fs' : List Frame} {mv : Mv} {w w' : World} {es : Array Event} (h : Acts (fun K => stepG P true (Conc.G f K) w) mv w' es) (ha : mv.app fs = some (f', fs')) : step P (lone f (fs ++ [c0]) w) = .next (lone f' (fs' ++ [c0]) w') := by
  cases mv with
  | stay g => simp only [Mv.app, Option.some.injEq, Prod.mk.injEq] at ha; obtain ⟨rfl, rfl⟩ := ha; exact step_go (h _)
  | push g g' => simp only [Mv.app, Option.some.injEq, Prod.mk.injEq] at ha; obtain ⟨rfl, rfl⟩ := ha; exact step_go (h _)
  | pop v =>
    cases fs with
    | nil => cases ha
    | cons c fs => simp only [Mv.app, Option.some.injEq, Prod.mk.injEq] at ha; obtain ⟨rfl, rfl⟩ := ha; exact step_go (h c _)

/-- One step of a run that wins. -/
theorem one_step (hF : Fit P bad Z) (hT : Aim T) {f : Frame} {fs : List Frame} {G : World} (hS : SI P Z f fs G) (hn : ¬ T f fs G) (hw : Wins P T f fs G) :
    ∃ mv n f' fs' G', mv.app fs = some (f', fs') ∧ SI P Z f' fs' G' ∧ (∃ es, Acts (fun K => stepG P true (Conc.G f K) G) mv G' es) ∧ G'.tape = G.tape ∧ G'.drawn = G.drawn + n ∧ G.heap.size ≤ G'.heap.size ∧ (∀ i : Nat, Z i → G'.heap[i]? = G.heap[i]?) ∧ Lock P Z f mv n G G' := by
  obtain ⟨k, g, gs, w, hrun, ht⟩ := hw
  obtain ⟨hfs, hS2⟩ := hS
  have hdead : ¬ Never P T (lone f (fs ++ [c0]) G) := fun h => h k g gs w hrun ht
  have zsame : ∀ {mv : Mv} {G' : World} {n : Nat} {es : Array Event}, Acts (fun K => stepG P true (Conc.G f K) G) mv G' es → Lock P Z f mv n G G' → ∀ i : Nat, Z i → G'.heap[i]? = G.heap[i]? := by
    intro mv G' n es ha hl
    obtain ⟨A', es', b1, _, _, _, b5, _⟩ := hl G (rel_refl (hS2.elim (fun x => x.2.bare) fun x => x.2.bare) G.tape G.drawn) (fun _ _ _ => rfl)
    obtain rfl := ha.det b1
    exact b5
  rcases hS2 with ⟨hnf, hG⟩ | ⟨hbf, hG⟩
  · rcases follows_step hF.nice hF.call hnf hG with hd | ⟨mv, G', n, ⟨es, ha⟩, hm, hG', t1, d1, z1, hl⟩
    · exact absurd (never_dead hT.calm hfs hd hn) hdead
    cases mv with
    | stay f' => exact ⟨.stay f', n, f', fs, G', rfl, ⟨hfs, .inl ⟨hm.1 id, hG'⟩⟩, ⟨es, ha⟩, t1, d1, z1, zsame ha hl, hl⟩
    | push f' f2 =>
      refine ⟨.push f' f2, n, f', f2 :: fs, G', rfl, ⟨fun x hx => ?_, ?_⟩, ⟨es, ha⟩, t1, d1, z1, zsame ha hl, hl⟩
      · simp only [List.mem_cons] at hx
        rcases hx with rfl | hx
        · exact hm.2.2
        · exact hfs x hx
      · rcases hm.2.1 with h | ⟨args, rfl⟩
        · exact .inl ⟨h, hG'⟩
        · exact .inr ⟨hF.pre args, hG'.up⟩
    | pop v =>
      cases fs with
      | nil =>
        refine absurd (never_next (step_go (ha c0 [])) (never_foot v G') fun f' fs' w' e => ?_) hdead
        obtain ⟨rfl, e2, rfl⟩ := lone_inj e
        obtain rfl := app_foot (fs := []) e2
        exact hn
      | cons c fs => exact ⟨.pop v, n, c.finish v, fs, G', rfl, ⟨fun x hx => hfs x (by simp [hx]), .inl ⟨(hfs c (by simp)).finish v, hG'⟩⟩, ⟨es, ha⟩, t1, d1, z1, zsame ha hl, hl⟩
  · rcases follows_pre (bad := bad) hbf hG with hd | ⟨mv, G', n, ⟨es, ha⟩, hm, hG', t1, d1, z1, hl⟩
    · exact absurd (never_dead hT.calm hfs hd hn) hdead
    cases mv with
    | stay f' => exact ⟨.stay f', n, f', fs, G', rfl, ⟨hfs, .inr ⟨hm.2 trivial, hG'⟩⟩, ⟨es, ha⟩, t1, d1, z1, zsame ha hl, hl⟩
    | push f' f2 => exact absurd trivial hm.1
    | pop v => exact absurd trivial hm

theorem world_ext {w w' : World} (h1 : w.heap = w'.heap) (h2 : w.tape = w'.tape) (h3 : w.drawn = w'.drawn) (h4 : w.os = w'.os) (h5 : w.output = w'.output) : w = w' := by
  cases w; cases w'; simp only at h1 h2 h3 h4 h5; subst h1 h2 h3 h4 h5; rfl

/-- Where the lock leads from a world with another tape. -/
theorem Lock.to {f : Frame} {mv : Mv} {n : Nat} {G G' : World} (h : Lock P Z f mv n G G') (hb : ∀ i : Nat, Z i → (∃ t f, G.heap[i]? = some (.cells #[] t f)) ∨ G.heap[i]? = some (.coro none) ∨ ∃ c t, G.heap[i]? = some (iced c t)) (hz : ∀ i : Nat, Z i → G'.heap[i]? = G.heap[i]?) (τ : Tape) (d : Nat)
    (ha : ∀ i, i < n → ∀ q, τ (d + i) q = G.tape (G.drawn + i) q) : ∃ es, Acts (fun K => stepG P true (Conc.G f K) (re G τ d)) mv (re G' τ (d + n)) es := by
  obtain ⟨A', es, a1, a2, a3, a4, a5, _⟩ := h (re G τ d) (rel_refl hb τ d) ha
  have : A' = re G' τ (d + n) := by
    refine world_ext ?_ a3 a4 a2.os a2.out
    apply Array.ext_getElem?
    intro i
    by_cases hi : Z i
    · rw [a5 i hi]; exact (hz i hi).symm
    · exact a2.same i hi
  exact ⟨es, this ▸ a1⟩

theorem wins_zero {f : Frame} {fs : List Frame} {G : World} (h : T f fs G) : Wins P T f fs G := ⟨0, f, fs, G, rfl, h⟩
theorem Wins.of_step {f f' : Frame} {fs fs' : List Frame} {w w' : World} (h : step P (lone f (fs ++ [c0]) w) = .next (lone f' (fs' ++ [c0]) w')) (hw : Wins P T f' fs' w') : Wins P T f fs w := by
  obtain ⟨n, g, gs, x, h1, h2⟩ := hw
  exact ⟨n + 1, g, gs, x, by simp only [runN, h]; exact h1, h2⟩

/-- What the tape says elsewhere does not matter. -/
theorem wins_shift (hF : Fit P bad Z) (hT : Aim T) : ∀ (m : Nat) (f : Frame) (fs : List Frame) (G : World) (τ : Tape) (d : Nat), SI P Z f fs G → (∀ i q, τ (d + i) q = G.tape (G.drawn + i) q) →
    (∃ f' fs' w', runN P m (lone f (fs ++ [c0]) G) = .next (lone f' (fs' ++ [c0]) w') ∧ T f' fs' w') → Wins P T f fs (re G τ d) := by
  intro m
  induction m with
  | zero =>
    intro f fs G τ d _ _ ⟨f', fs', w', h, ht⟩
    simp only [runN, Stepped.next.injEq] at h
    obtain ⟨rfl, e2, rfl⟩ := lone_inj h
    obtain rfl := app_foot e2
    exact wins_zero (hT.re _ _ _ _ _ ht)
  | succ m ih =>
    intro f fs G τ d hS hag ⟨f', fs', w', h, ht⟩
    by_cases hT0 : T f fs G
    · exact wins_zero (hT.re _ _ _ _ _ hT0)
    obtain ⟨mv, n, f1, fs1, G1, happ, hS1, ⟨es, ha⟩, t1, d1, _, hz, hl⟩ := one_step hF hT hS hT0 ⟨m + 1, f', fs', w', h, ht⟩
    obtain ⟨es', hb⟩ := hl.to hS.bares hz τ d (fun i _ q => hag i q)
    refine Wins.of_step (hb.step happ) (ih f1 fs1 G1 τ (d + n) hS1 (fun i q => by rw [t1, d1, Nat.add_assoc, Nat.add_assoc]; exact hag (n + i) q) ⟨f', fs', w', ?_, ht⟩)
    simp only [runN, ha.step happ] at h
    exact h

/-- ████ THE TREE: at each node, whatever tape is laid there, a move that the ghost world and the true one share; every branch comes to T. ████ -/
inductive Tree (P : Program) (Z : Nat → Prop) (T : Frame → List Frame → World → Prop) : Frame → List Frame → World → Prop
  | stop (f : Frame) (fs : List Frame) (G : World) (h : T f fs G) : Tree P Z T f fs G
  | step (f : Frame) (fs : List Frame) (G : World) (mv : Tape → Nat → Mv) (f' : Tape → Nat → Frame) (fs' : Tape → Nat → List Frame) (G' : Tape → Nat → World) (happ : ∀ τ d, (mv τ d).app fs = some (f' τ d, fs' τ d))
      (hl : ∀ A, Rel Z G A → ∃ A' es, Acts (fun K => stepG P true (Conc.G f K) A) (mv A.tape A.drawn) A' es ∧ Rel Z (G' A.tape A.drawn) A' ∧ A'.tape = A.tape ∧ A.heap.size ≤ A'.heap.size ∧ (∀ i : Nat, Z i → A'.heap[i]? = A.heap[i]?) ∧ ∀ e ∈ es, EvA Z e)
      (ht : ∀ τ d, Tree P Z T (f' τ d) (fs' τ d) (G' τ d)) : Tree P Z T f fs G

/-- The next state wins on every tape too. -/
theorem wins_next (hF : Fit P bad Z) (hT : Aim T) {f f' : Frame} {fs fs' : List Frame} {G G' : World} {mv : Mv} {n : Nat} (hS : SI P Z f fs G) (hn : ¬ T f fs G) (hw : ∀ τ d, Wins P T f fs (re G τ d)) (happ : mv.app fs = some (f', fs')) (hS' : SI P Z f' fs' G')
    (hz : ∀ i : Nat, Z i → G'.heap[i]? = G.heap[i]?) (hl : Lock P Z f mv n G G') (τ' : Tape) (d' : Nat) : Wins P T f' fs' (re G' τ' d') := by
  let τ2 : Tape := fun i q => if i < G.drawn + n then G.tape i q else τ' (d' + (i - (G.drawn + n))) q
  obtain ⟨es, hb⟩ := hl.to hS.bares hz τ2 G.drawn (fun i hi q => by simp [τ2, hi])
  obtain ⟨m, g, gs, x, h1, h2⟩ := hw τ2 G.drawn
  cases m with
  | zero =>
    simp only [runN, Stepped.next.injEq] at h1
    obtain ⟨rfl, e2, rfl⟩ := lone_inj h1
    obtain rfl := app_foot e2
    exact absurd (hT.re _ _ _ G.tape G.drawn h2) hn
  | succ m =>
    simp only [runN, hb.step happ] at h1
    have := wins_shift hF hT m f' fs' (re G' τ2 (G.drawn + n)) τ' d' (hS'.re _ _) (fun i q => by
      have : ¬ (G.drawn + n + i < G.drawn + n) := by omega
      show _ = τ2 (G.drawn + n + i) q
      simp only [τ2, this, if_false]
      congr 1
      omega) ⟨g, gs, x, h1, h2⟩
    exact this
end
end Go.Proofs.YtlanlkpamnoekaaDoor.Lk
namespace Go.Proofs.YtlanlkpamnoekaaDoor.Lk
open Go Go.Conc
section
variable {P : Program} {Z : Nat → Prop} {bad : FuncId} {T : Frame → List Frame → World → Prop}

/-- A state that wins on every tape and has no tree. -/
structure Odds (P : Program) (Z : Nat → Prop) (T : Frame → List Frame → World → Prop) where
  f : Frame
  fs : List Frame
  G : World
  si : SI P Z f fs G
  wins : ∀ τ d, Wins P T f fs (re G τ d)
  no : ¬ Tree P Z (fun f fs G => T f fs G ∧ SI P Z f fs G) f fs G

theorem Odds.next (hF : Fit P bad Z) (hT : Aim T) (x : Odds P Z T) : ∃ (τ : Tape) (d n : Nat) (mv : Mv) (y : Odds P Z T), mv.app x.fs = some (y.f, y.fs) ∧ Lock P Z x.f mv n (re x.G τ d) y.G ∧ ∀ i : Nat, Z i → y.G.heap[i]? = x.G.heap[i]? := by
  have hn : ¬ T x.f x.fs x.G := fun h => x.no (.stop _ _ _ ⟨h, x.si⟩)
  have hn' : ∀ τ d, ¬ T x.f x.fs (re x.G τ d) := fun τ d h => hn (hT.re _ _ (re x.G τ d) x.G.tape x.G.drawn h)
  have hone := fun τ d => one_step hF hT (x.si.re τ d) (hn' τ d) (x.wins τ d)
  apply Classical.byContradiction
  intro hcon
  have htree : ∀ τ d, ∃ r : Mv × Nat × Frame × List Frame × World, r.1.app x.fs = some (r.2.2.1, r.2.2.2.1) ∧ x.G.heap.size ≤ r.2.2.2.2.heap.size ∧ Lock P Z x.f r.1 r.2.1 (re x.G τ d) r.2.2.2.2 ∧ Tree P Z (fun f fs G => T f fs G ∧ SI P Z f fs G) r.2.2.1 r.2.2.2.1 r.2.2.2.2 := by
    intro τ d
    obtain ⟨mv, n, f', fs', G', happ, hS', _, _, _, hsz, hz, hl⟩ := hone τ d
    refine ⟨(mv, n, f', fs', G'), happ, hsz, hl, Classical.byContradiction fun hno => hcon ⟨τ, d, n, mv, ⟨f', fs', G', hS', fun τ' d' => ?_, hno⟩, happ, hl, hz⟩⟩
    exact wins_next hF hT (x.si.re τ d) (hn' τ d) (fun τ2 d2 => x.wins τ2 d2) happ hS' hz hl τ' d'
  refine x.no (.step _ _ _ (fun τ d => (htree τ d).choose.1) (fun τ d => (htree τ d).choose.2.2.1) (fun τ d => (htree τ d).choose.2.2.2.1) (fun τ d => (htree τ d).choose.2.2.2.2) (fun τ d => (htree τ d).choose_spec.1) (fun A hA => ?_) fun τ d => (htree τ d).choose_spec.2.2.2)
  have hs := (htree A.tape A.drawn).choose_spec
  obtain ⟨A', es, a1, a2, a3, _, a5, a6⟩ := hs.2.2.1 A ⟨hA.size, hA.same, hA.odd, hA.os, hA.out⟩ (fun _ _ _ => rfl)
  exact ⟨A', es, a1, a2, a3, by rw [a2.size, hA.size]; exact hs.2.1, a5, a6⟩

/-- ████ FROM ONE LONE RUN FOR EACH TAPE: THE TREE. ████ -/
theorem tree_of (hF : Fit P bad Z) (hT : Aim T) {f : Frame} {fs : List Frame} {G : World} (hS : SI P Z f fs G) (hw : ∀ τ d, Wins P T f fs (re G τ d)) : Tree P Z (fun f fs G => T f fs G ∧ SI P Z f fs G) f fs G := by
  apply Classical.byContradiction
  intro hno
  have hnext : ∀ x : Odds P Z T, ∃ r : Tape × Nat × Nat × Mv × Odds P Z T, r.2.2.2.1.app x.fs = some (r.2.2.2.2.f, r.2.2.2.2.fs) ∧ Lock P Z x.f r.2.2.2.1 r.2.2.1 (re x.G r.1 r.2.1) r.2.2.2.2.G ∧ ∀ i : Nat, Z i → r.2.2.2.2.G.heap[i]? = x.G.heap[i]? := fun x => by
    obtain ⟨τ, d, n, mv, y, a, b, c⟩ := x.next hF hT
    exact ⟨(τ, d, n, mv, y), a, b, c⟩
  let τ : Odds P Z T → Tape := fun x => (hnext x).choose.1
  let d : Odds P Z T → Nat := fun x => (hnext x).choose.2.1
  let n : Odds P Z T → Nat := fun x => (hnext x).choose.2.2.1
  let nx : Odds P Z T → Odds P Z T := fun x => (hnext x).choose.2.2.2.2
  have h1 : ∀ x, (hnext x).choose.2.2.2.1.app x.fs = some ((nx x).f, (nx x).fs) := fun x => (hnext x).choose_spec.1
  have h2 : ∀ x, Lock P Z x.f (hnext x).choose.2.2.2.1 (n x) (re x.G (τ x) (d x)) (nx x).G := fun x => (hnext x).choose_spec.2.1
  have h3 : ∀ x, ∀ i : Nat, Z i → (nx x).G.heap[i]? = x.G.heap[i]? := fun x => (hnext x).choose_spec.2.2
  let xs : Nat → Odds P Z T := fun k => Nat.rec ⟨f, fs, G, hS, hw, hno⟩ (fun _ x => nx x) k
  have xs1 : ∀ k, xs (k + 1) = nx (xs k) := fun _ => rfl
  let c : Nat → Nat := fun k => Nat.rec 0 (fun j s => s + n (xs j)) k
  have c1 : ∀ k, c (k + 1) = c k + n (xs k) := fun _ => rfl
  have cmono : ∀ j k, j ≤ k → c j ≤ c k := by
    intro j k hjk
    induction hjk with
    | refl => exact Nat.le_refl _
    | step _ ih => exact Nat.le_trans ih (by rw [c1]; omega)
  have hdec : ∀ m, Decidable (∃ k, c k ≤ m ∧ m < c (k + 1)) := fun m => Classical.propDecidable _
  let σ : Tape := fun m q => @dite _ (∃ k, c k ≤ m ∧ m < c (k + 1)) (hdec m) (fun h => τ (xs h.choose) (d (xs h.choose) + (m - c h.choose)) q) (fun _ => 0)
  have hσ : ∀ k i, i < n (xs k) → ∀ q, σ (c k + i) q = τ (xs k) (d (xs k) + i) q := by
    intro k i hi q
    have hex : ∃ k', c k' ≤ c k + i ∧ c k + i < c (k' + 1) := ⟨k, by omega, by rw [c1]; omega⟩
    have hk : hex.choose = k := by
      have hs := hex.choose_spec
      rcases Nat.lt_trichotomy hex.choose k with h | h | h
      · have := cmono (hex.choose + 1) k h
        omega
      · exact h
      · have := cmono (k + 1) hex.choose h
        rw [c1] at this
        omega
    show (if h : ∃ k', c k' ≤ c k + i ∧ c k + i < c (k' + 1) then _ else _) = _
    rw [dif_pos hex]
    simp only [hk]
    congr 1
    omega
  have hrun : ∀ k, runN P k (lone f (fs ++ [c0]) (re G σ 0)) = .next (lone (xs k).f ((xs k).fs ++ [c0]) (re (xs k).G σ (c k))) := by
    intro k
    induction k with
    | zero => rfl
    | succ k ih =>
      rw [runN_add, ih]
      have hl := (h2 (xs k)).to (G := re (xs k).G (τ (xs k)) (d (xs k))) (xs k).si.bares (h3 (xs k)) σ (c k) (fun i hi q => hσ k i hi q)
      obtain ⟨es, ha⟩ := hl
      have := Acts.step ha (h1 (xs k))
      simp only [runN]
      have e : re (re (xs k).G (τ (xs k)) (d (xs k))) σ (c k) = re (xs k).G σ (c k) := rfl
      rw [e] at this
      rw [this]
  obtain ⟨m, g, gs, w, hm, ht⟩ := hw σ 0
  rw [hrun m] at hm
  simp only [Stepped.next.injEq] at hm
  obtain ⟨e1, e2, e3⟩ := lone_inj hm
  have e2 := app_foot e2
  subst e1 e2 e3
  exact (xs m).no (.stop _ _ _ ⟨hT.re _ _ (re (xs m).G σ (c m)) (xs m).G.tape (xs m).G.drawn ht, (xs m).si⟩)
end
end Go.Proofs.YtlanlkpamnoekaaDoor.Lk
namespace Go.Proofs.YtlanlkpamnoekaaDoor.Lk
open Go Go.Conc
open Go.ConcN (sumTo upd sumTo_upd upd_ne upd_same)

/-- What the others keep while goroutine 0 goes on; the number falls at each step of theirs. -/
structure Oth (P : Program) (Z V : Nat → Prop) (Q : Nat → Trace → Array Goroutine → World → Prop) : Prop where
  awake : ∀ μ t gs A i g, Q μ t gs A → 0 < i → gs[i]? = some g → awake g
  draw : ∀ μ t gs A d, Q μ t gs A → Q μ t gs (A.at d)
  own : ∀ μ t gs A a a' A' es, Q μ t gs A → gs[0]? = some a → a.status = .running → a'.status = .running → (∀ e ∈ es, EvA Z e) → (∀ i : Nat, Z i → A'.heap[i]? = A.heap[i]?) → A'.tape = A.tape → A.heap.size ≤ A'.heap.size →
    Q μ (t ++ MemOp.ofEvents 0 a.frame.fn a.frame.place es) ((gs.map (woken P a a' A')).setIfInBounds 0 a') A'
  other : ∀ μ t gs A a sl i g, Q μ t gs A → gs[0]? = some a → a.status = .running → 0 < i → gs[i]? = some g → g.status = .running →
    ∃ gs' A' ops μ', runT P (crowd gs A sl) i = (.next (crowd gs' A' sl), ops) ∧ μ' < μ ∧ gs'[0]? = some a ∧ gs'.size = gs.size ∧ (∀ G, Rel Z G A → Rel Z G A') ∧ (∀ i : Nat, ¬ V i → A'.heap[i]? = A.heap[i]?) ∧ A'.tape = A.tape ∧ A'.heap.size = A.heap.size ∧ Q μ' (t ++ ops) gs' A'

section
variable {P : Program} {Z V : Nat → Prop} {bad : FuncId} {T : Frame → List Frame → World → Prop} {Q : Nat → Trace → Array Goroutine → World → Prop}

theorem Rel.at {G A : World} (h : Rel Z G A) (d : Nat) : Rel Z G (A.at d) := ⟨h.size, h.same, h.odd, h.os, h.out⟩

/-- ████ THE TREE IN COMPANY, ON WHATEVER TAPE. ████ -/
theorem tree_run (O : Oth P Z V Q) {f : Frame} {fs : List Frame} {G : World} (hT : Tree P Z T f fs G) : ∀ (cs : List Frame) (μ : Nat) (t : Trace) (gs : Array Goroutine) (A : World) (sl : Option (Nat × Nat)), Rel Z G A → gs[0]? = some (Conc.G f (fs ++ cs)) → Q μ t gs A →
    ∃ (N : Nat) (gs' : Array Goroutine) (A' : World) (sl' : Option (Nat × Nat)) (t' : Trace) (μ' : Nat) (f' : Frame) (fs' : List Frame) (G' : World),
      runNT P N (crowd gs A sl) t = (.next (crowd gs' A' sl'), t') ∧ T f' fs' G' ∧ Rel Z G' A' ∧ (∀ i : Nat, Z i → ¬ V i → A'.heap[i]? = A.heap[i]?) ∧ gs'[0]? = some (Conc.G f' (fs' ++ cs)) ∧ gs'.size = gs.size ∧ A'.tape = A.tape ∧ A.heap.size ≤ A'.heap.size ∧ Q μ' t' gs' A' := by
  induction hT with
  | stop f fs G h => exact fun cs μ t gs A sl hA h0 hQ => ⟨0, gs, A, sl, t, μ, f, fs, G, rfl, h, hA, fun _ _ _ => rfl, h0, rfl, rfl, Nat.le_refl _, hQ⟩
  | step f fs G mv f' fs' G' happ hl _ ih =>
    intro cs μ
    induction μ using Nat.strongRecOn with
    | _ μ ihμ =>
    intro t gs A sl hA h0 hQ
    have haw : ∀ g ∈ gs, Go.Conc.awake g := by
      intro g hg
      obtain ⟨i, hi, rfl⟩ := Array.mem_iff_getElem.1 hg
      rcases Nat.eq_zero_or_pos i with rfl | hpos
      · have : gs[0] = Conc.G f (fs ++ cs) := by simpa [Array.getElem?_eq_getElem hi] using h0
        rw [this]; exact awake_of (.inl rfl)
      · exact O.awake μ t gs A i _ hQ hpos (Array.getElem?_eq_getElem hi)
    obtain ⟨i, g, d, sl', hi, hg, hst⟩ := crowd_pick (P := P) (w := A) (sl := sl) haw ⟨0, _, h0, rfl⟩
    have hQ' := O.draw μ t gs A d hQ
    have hA' := hA.at d
    rcases Nat.eq_zero_or_pos i with rfl | hpos
    · obtain rfl : g = Conc.G f (fs ++ cs) := by rw [h0] at hi; exact (Option.some.inj hi).symm
      obtain ⟨A', es, ha, hR, ht, hsz, hz, hev⟩ := hl (A.at d) hA'
      have hlt : 0 < gs.size := (Array.getElem?_eq_some_iff.1 h0).1
      have key : ∃ a', stepG P (0 == 0) (Conc.G f (fs ++ cs)) (A.at d) = .go a' A' es ∧ a' = Conc.G (f' (A.at d).tape (A.at d).drawn) (fs' (A.at d).tape (A.at d).drawn ++ cs) := by
        have happ' := happ (A.at d).tape (A.at d).drawn
        cases hm : mv (A.at d).tape (A.at d).drawn with
        | stay g =>
          rw [hm] at ha happ'
          simp only [Mv.app, Option.some.injEq, Prod.mk.injEq] at happ'
          exact ⟨_, ha (fs ++ cs), by rw [← happ'.1, ← happ'.2]⟩
        | push g g' =>
          rw [hm] at ha happ'
          simp only [Mv.app, Option.some.injEq, Prod.mk.injEq] at happ'
          exact ⟨_, ha (fs ++ cs), by rw [← happ'.1, ← happ'.2]; rfl⟩
        | pop v =>
          rw [hm] at ha happ'
          cases fs with
          | nil => cases happ'
          | cons c fs =>
            simp only [Mv.app, Option.some.injEq, Prod.mk.injEq] at happ'
            exact ⟨_, ha c (fs ++ cs), by rw [← happ'.1, ← happ'.2]⟩
      obtain ⟨a', hgo, rfl⟩ := key
      have hrunT := runT_crowd_go (P := P) (sl := sl') (i := 0) hi hgo
      have hQ2 := O.own μ t gs (A.at d) _ (Conc.G (f' (A.at d).tape (A.at d).drawn) (fs' (A.at d).tape (A.at d).drawn ++ cs)) A' es hQ' h0 rfl rfl hev hz ht hsz
      obtain ⟨N, gs2, A2, sl2, t2, μ2, g2, gs2', G2, r1, r2, r3, rv, r4, r5, r6, r7, r8⟩ := ih (A.at d).tape (A.at d).drawn cs μ _ _ A' sl' hR (by simp [hlt]) hQ2
      exact ⟨N + 1, gs2, A2, sl2, t2, μ2, g2, gs2', G2, by simp only [runNT, hst, hrunT]; exact r1, r2, r3, fun i hi hv => (rv i hi hv).trans (hz i hi), r4, by rw [r5]; simp, r6.trans ht, Nat.le_trans hsz r7, r8⟩
    · obtain ⟨gs', A', ops, μ', h1, h2, h3, h4, h5, hv0, h6, h7, h8⟩ := O.other μ t gs (A.at d) _ sl' i g hQ' h0 rfl hpos hi hg
      obtain ⟨N, gs2, A2, sl2, t2, μ2, g2, gs2', G2, r1, r2, r3, rv, r4, r5, r6, r7, r8⟩ := ihμ μ' h2 (t ++ ops) gs' A' sl' (h5 G hA') h3 h8
      exact ⟨N + 1, gs2, A2, sl2, t2, μ2, g2, gs2', G2, by simp only [runNT, hst, h1]; exact r1, r2, r3, fun i hi hv => (rv i hi hv).trans (hv0 i hv), r4, r5.trans h4, r6.trans h6, by rw [h7] at r7; exact r7, r8⟩

/-! ### leavers -/
theorem ops_by (i : Nat) (fn : FuncId) (pos : String) (es : Array Event) : ∀ op ∈ MemOp.ofEvents i fn pos es, op.g = i := by
  intro op hop
  rw [ofEvents_eq] at hop
  obtain ⟨e, _, rfl⟩ := Array.mem_map.1 hop
  rfl
theorem low_some (es : Array Event) : ∃ B, ∀ e ∈ es, (MemAct.ofEvent e).low B := by
  obtain ⟨l⟩ := es
  induction l with
  | nil => exact ⟨0, by simp⟩
  | cons e l ih =>
    obtain ⟨B, hB⟩ := ih
    have : ∃ B1, (MemAct.ofEvent e).low B1 := by
      cases MemAct.ofEvent e with
      | access x =>
        obtain ⟨loc, wr, sy⟩ := x
        cases loc with
        | cell a => exact ⟨a.block + 1, Nat.lt_succ_self _⟩
        | obj r => exact ⟨r + 1, Nat.lt_succ_self _⟩
        | _ => exact ⟨0, trivial⟩
      | mark m => cases m <;> first | exact ⟨0, trivial⟩ | (rename_i a; exact ⟨a.block + 1, Nat.lt_succ_self _⟩)
      | go c => exact ⟨0, trivial⟩
      | start => exact ⟨0, trivial⟩
      | send c _ | sendDone c _ | recv c _ _ | recvDone c _ | close c | recvClosed c => exact ⟨c + 1, Nat.lt_succ_self _⟩
    obtain ⟨B1, h1⟩ := this
    refine ⟨max B B1, fun x hx => ?_⟩
    simp only [List.mem_toArray, List.mem_cons] at hx
    rcases hx with rfl | hx
    · exact MemAct.low_mono (by omega) h1
    · exact MemAct.low_mono (by omega) (hB x (by simpa using hx))
theorem evA_loc {e : Event} (h : EvA Z e) : e.loc ≠ .mark .disable ∧ e.loc ≠ .mark .enable := ⟨fun h' => (by rcases h.2.1 _ h' with x | ⟨_, x⟩ <;> cases x), fun h' => (by rcases h.2.1 _ h' with x | ⟨_, x⟩ <;> cases x)⟩

/-- All others only leave; goroutine 0 knows all that was done. -/
def QL (P : Program) (μ : Nat) (t : Trace) (gs : Array Goroutine) (_ : World) : Prop := ∃ (q : Nat → Nat) (B : Nat), Leavers P t gs q ∧ Past (fun _ => False) B t ∧ μ = sumTo gs.size q

theorem oth_leavers : Oth P Z (fun _ => False) (QL P) where
  awake := fun μ t gs A i g ⟨q, B, hL, _, _⟩ hpos hi => awake_of ((hL.old i _ hpos hi).status.elim .inl fun x => .inr (.inr x))
  draw := fun _ _ _ _ _ h => h
  own := fun μ t gs A a a' A' es ⟨q, B, hL, hP, hμ⟩ h0 hrun hrun' hev _ _ _ => by
    obtain ⟨B1, hB1⟩ := low_some es
    have hsz : ((gs.map (woken P a a' A')).setIfInBounds 0 a').size = gs.size := by simp
    refine ⟨q, max B B1, ⟨fun j x hj hx => ?_, fun j hj => ?_⟩, (hP.mono (Nat.le_max_left B B1)).own fun e he => ⟨fun x _ h => h.elim, (evA_loc (hev e he)).1, (evA_loc (hev e he)).2, MemAct.low_mono (Nat.le_max_right B B1) (hB1 e he)⟩, by rw [hsz]; exact hμ⟩
    · have hne : 0 ≠ j := by omega
      rw [Array.getElem?_setIfInBounds_ne hne, Array.getElem?_map] at hx
      obtain ⟨y, hy, rfl⟩ := Option.map_eq_some_iff.1 hx
      have hq := hL.old j y hj hy
      rw [woken_quitsD hq, Deaf_other t (by omega) _ (ops_by _ _ _ _)]
      exact hq
    · rw [Deaf_other t (g' := 0) (by simp at hj; have := (Array.getElem?_eq_some_iff.1 h0).1; omega) _ (ops_by _ _ _ _)]
      exact hL.above j (by simpa using hj)
  other := fun μ t gs A a sl i g ⟨q, B, hL, hP, hμ⟩ h0 hrun hpos hi hg => by
    have hq := hL.old i g hpos hi
    have hi0 : (i == 0) = false := by simp; omega
    have hlt : i < gs.size := (Array.getElem?_eq_some_iff.1 hi).1
    cases hqi : q i with
    | zero => rw [hqi] at hq; rw [hq.1] at hg; cases hg
    | succ k =>
      rw [hqi] at hq
      rcases hq with ⟨hf, _⟩ | ⟨_, g', es, hm, hstp, hq'⟩
      · rw [hf] at hg; cases hg
      have hrunT := runT_crowd_go (P := P) (gs := gs) (sl := sl) (i := i) hi (by rw [hi0]; exact hstp A)
      have hsz : ((gs.map (woken P g g' A)).setIfInBounds i g').size = gs.size := by simp
      have hsum : sumTo gs.size (upd q i k) + (k + 1) = sumTo gs.size q + k := by
        have := sumTo_upd q k id hlt
        simpa [hqi] using this
      have hne : i ≠ 0 := by omega
      refine ⟨_, A, _, sumTo gs.size (upd q i k), hrunT, by omega, ?_, hsz, fun _ h => h, fun _ _ => rfl, rfl, rfl, upd q i k, B, ⟨fun j x hj hx => ?_, fun j hj => ?_⟩, hP.mute hne hm, by rw [hsz]⟩
      · rw [Array.getElem?_setIfInBounds_ne hne, Array.getElem?_map, h0]
        simp [woken_run hrun]
      · by_cases hji : i = j
        · subst hji
          rw [Array.getElem?_setIfInBounds_self_of_lt (by simpa using hlt)] at hx
          obtain rfl := Option.some.inj hx
          rw [upd_same, Deaf_own]
          exact hq'
        · rw [Array.getElem?_setIfInBounds_ne hji, Array.getElem?_map] at hx
          obtain ⟨y, hy, rfl⟩ := Option.map_eq_some_iff.1 hx
          have hqj := hL.old j y hj hy
          rw [woken_quitsD hqj, upd_ne q k (Ne.symm hji), Deaf_other t hji _ (ops_by _ _ _ _)]
          exact hqj
      · rw [Deaf_other t (g' := i) (by simp at hj; omega) _ (ops_by _ _ _ _)]
        exact hL.above j (by simpa using hj)
end
end Go.Proofs.YtlanlkpamnoekaaDoor.Lk
