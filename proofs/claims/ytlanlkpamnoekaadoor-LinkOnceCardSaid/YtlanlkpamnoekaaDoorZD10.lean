/- Lone runs in company: a metatheorem on the model, and the sender beside link.All. Nothing that was there is turned. -/
import Derived.Test.YtlanlkpamnoekaaDoorZD09
import Derived.Test.YtlanlkpamnoekaaDoorRows
set_option linter.unusedSimpArgs false
set_option linter.unusedVariables false
namespace Go.Proofs.YtlanlkpamnoekaaDoor.Lk
open Go Go.Conc
set_option maxRecDepth 100000

def okFn (P : Program) (bad : Nat) (l : List Nat) (i : Nat) (fn : Func) : Bool :=
  fn.name != "runtime.NumGoroutine" && match fn.body with
    | some c => i == bad || niceCode P c
    | none => l.contains i
theorem okFns : (Tryd.prog.funcs.toList.zipIdx.all fun x => okFn Tryd.prog 14 [0, 1, 79, 80, 81, 82, 83, 84, 85, 86, 87, 88, 89, 90, 91, 92, 93, 94, 95, 96, 97] x.2 x.1) = true := by kernel_rfl
theorem ok_fn {f : FuncId} {fn : Func} (h : Tryd.prog.funcs[f]? = some fn) : okFn Tryd.prog 14 [0, 1, 79, 80, 81, 82, 83, 84, 85, 86, 87, 88, 89, 90, 91, 92, 93, 94, 95, 96, 97] f fn = true := by
  have := List.all_eq_true.1 okFns (fn, f) (by
    rw [List.mem_zipIdx_iff_getElem?]
    simpa using h)
  exact this

theorem pre_of {ops : Array Oper} (h : (ops.toList.all fun o => preOp o.op) = true) : ∀ (i : Nat) o, ops[i]? = some o → preOp o.op = true := fun i o ho =>
  List.all_eq_true.1 h o (by rw [Array.mem_toList_iff]; exact Array.mem_of_getElem? ho)

theorem pre_all : ∃ c, Tryd.f14.body = some c ∧ PreL [.code c] := by
  refine ⟨_, rfl, ?_⟩
  refine .seq _ _ _ (.code _ _ _ _ (pre_of (by kernel_rfl)) (.seq _ _ _ (.code _ _ _ _ (pre_of (by kernel_rfl)) (.seq _ _ _ (.goC _ _ _ _ _ _ _ _ _ _ rfl rfl rfl rfl rfl rfl rfl rfl rfl)))))

theorem find_row {fn : Func} (i : Nat) (h : Extern.find fn = (Extern.RuntimeError.rows[i]?).map (·.2)) {P : Program} {q : Prop} {Z : Nat → Prop} {C : Code → Prop} : ∀ e, Extern.find fn = some e → ∀ args, Meek P q Z C (fun _ => True) (e args) := by
  intro e he args
  rw [h] at he
  obtain ⟨r, hr, rfl⟩ := Option.map_eq_some_iff.1 he
  exact meek_errorRows r (List.mem_of_getElem? hr) args
theorem find_no {fn : Func} (h : (Extern.find fn).isNone = true) {P : Program} {q : Prop} {Z : Nat → Prop} {C : Code → Prop} : ∀ e, Extern.find fn = some e → ∀ args, Meek P q Z C (fun _ => True) (e args) := by
  intro e he
  rw [he] at h
  cases h
theorem find_kind {fn : Func} (h : Extern.find fn = (Extern.ReflectliteType.rows.getLast?).map (·.2)) {P : Program} {q : Prop} {Z : Nat → Prop} {C : Code → Prop} : ∀ e, Extern.find fn = some e → ∀ args, Meek P q Z C (fun _ => True) (e args) := by
  intro e he args
  rw [h] at he
  obtain ⟨r, hr, rfl⟩ := Option.map_eq_some_iff.1 he
  simp only [Extern.ReflectliteType.rows, List.getLast?_cons_cons, List.getLast?_singleton, Option.some.injEq] at hr
  subst hr
  dsimp only
  repeat' first
    | with_reducible exact Meek.pure trivial
    | with_reducible exact Meek.stuck
    | with_reducible exact Meek.goPanic
    | with_reducible exact Meek.unsup (fun g h => by cases h)
    | with_reducible exact Meek.runtimePanic _
    | with_reducible exact Meek.boundsPanic _ _ _ _
    | with_reducible exact Meek.noRoom
    | with_reducible exact (Meek.choose _).any
    | with_reducible exact (Meek.load _ _).any
    | with_reducible exact (Meek.store _ _ _).any
    | with_reducible exact (meek_typeInfo _).any
    | with_reducible exact (meek_underlying _).any
    | with_reducible exact (meek_typeStr _).any
    | with_reducible exact (meek_zeroValue _).any
    | with_reducible exact (meek_sizeOf _).any
    | with_reducible exact (meek_isAgg _).any
    | with_reducible exact (meek_loadCells _ _).any
    | with_reducible exact (meek_storeCells _ _ _).any
    | with_reducible exact (meek_loadVar _ _).any
    | with_reducible exact (meek_storeVar _ _ _).any
    | with_reducible exact (meek_newRow _ _).any
    | with_reducible exact (meek_newVar _ _).any
    | with_reducible exact (meek_elemOf _).any
    | with_reducible exact (meek_part _ _ _).any
    | with_reducible exact (meek_asIntOf _).any
    | with_reducible exact (meek_asInt _).any
    | with_reducible exact (meek_asBool _).any
    | with_reducible exact (meek_asString _).any
    | with_reducible exact (meek_asAgg _).any
    | with_reducible exact (meek_asAddr _).any
    | with_reducible exact (meek_askRoom _).any
    | with_reducible exact (meek_behind _).any
    | with_reducible exact (meek_asNumber _ _).any
    | with_reducible exact (meek_noView _).any
    | with_reducible exact (meek_byteOf _).any
    | with_reducible exact (meek_fieldPlace _ _).any
    | with_reducible exact (Meek.viewAt _).any
    | with_reducible exact (Meek.numberAt _).any
    | with_reducible exact (Meek.program).any
    | with_reducible refine Meek.bind (N := fun _ => True) ?_ fun _ _ => ?_
    | with_reducible refine Meek.ite (fun _ => ?_) (fun _ => ?_)
    | split
    | dsimp only
theorem next_no {fn : Func} (h : (Extern.findNext fn).isNone = true) : Extern.findNext fn = none := Option.isNone_iff_eq_none.1 h
theorem nx0 : (Extern.findNext Tryd.f0).isNone = true := by kernel_rfl
theorem fd0 : (Extern.find Tryd.f0).isNone = true := by kernel_rfl
theorem nx1 : (Extern.findNext Tryd.f1).isNone = true := by kernel_rfl
theorem fd1 : (Extern.find Tryd.f1).isNone = true := by kernel_rfl
theorem nx91 : (Extern.findNext Tryd.f91).isNone = true := by kernel_rfl
theorem fd91 : (Extern.find Tryd.f91).isNone = true := by kernel_rfl
theorem nx95 : (Extern.findNext Tryd.f95).isNone = true := by kernel_rfl
theorem fd95 : (Extern.find Tryd.f95).isNone = true := by kernel_rfl
theorem nx96 : (Extern.findNext Tryd.f96).isNone = true := by kernel_rfl
theorem fd96 : (Extern.find Tryd.f96).isNone = true := by kernel_rfl
theorem nx97 : (Extern.findNext Tryd.f97).isNone = true := by kernel_rfl
theorem fd97 : (Extern.find Tryd.f97).isNone = true := by kernel_rfl
theorem nx79 : (Extern.findNext Tryd.f79).isNone = true := by kernel_rfl
theorem fd79 : Extern.find Tryd.f79 = (Extern.RuntimeError.rows[4]?).map (·.2) := by kernel_rfl
theorem nx80 : (Extern.findNext Tryd.f80).isNone = true := by kernel_rfl
theorem fd80 : Extern.find Tryd.f80 = (Extern.RuntimeError.rows[11]?).map (·.2) := by kernel_rfl
theorem nx81 : (Extern.findNext Tryd.f81).isNone = true := by kernel_rfl
theorem fd81 : Extern.find Tryd.f81 = (Extern.RuntimeError.rows[0]?).map (·.2) := by kernel_rfl
theorem nx82 : (Extern.findNext Tryd.f82).isNone = true := by kernel_rfl
theorem fd82 : Extern.find Tryd.f82 = (Extern.RuntimeError.rows[8]?).map (·.2) := by kernel_rfl
theorem nx83 : (Extern.findNext Tryd.f83).isNone = true := by kernel_rfl
theorem fd83 : Extern.find Tryd.f83 = (Extern.RuntimeError.rows[1]?).map (·.2) := by kernel_rfl
theorem nx84 : (Extern.findNext Tryd.f84).isNone = true := by kernel_rfl
theorem fd84 : Extern.find Tryd.f84 = (Extern.RuntimeError.rows[9]?).map (·.2) := by kernel_rfl
theorem nx85 : (Extern.findNext Tryd.f85).isNone = true := by kernel_rfl
theorem fd85 : Extern.find Tryd.f85 = (Extern.RuntimeError.rows[2]?).map (·.2) := by kernel_rfl
theorem nx86 : (Extern.findNext Tryd.f86).isNone = true := by kernel_rfl
theorem fd86 : Extern.find Tryd.f86 = (Extern.RuntimeError.rows[10]?).map (·.2) := by kernel_rfl
theorem nx87 : (Extern.findNext Tryd.f87).isNone = true := by kernel_rfl
theorem fd87 : Extern.find Tryd.f87 = (Extern.RuntimeError.rows[5]?).map (·.2) := by kernel_rfl
theorem nx88 : (Extern.findNext Tryd.f88).isNone = true := by kernel_rfl
theorem fd88 : Extern.find Tryd.f88 = (Extern.RuntimeError.rows[12]?).map (·.2) := by kernel_rfl
theorem nx89 : (Extern.findNext Tryd.f89).isNone = true := by kernel_rfl
theorem fd89 : Extern.find Tryd.f89 = (Extern.RuntimeError.rows[6]?).map (·.2) := by kernel_rfl
theorem nx90 : (Extern.findNext Tryd.f90).isNone = true := by kernel_rfl
theorem fd90 : Extern.find Tryd.f90 = (Extern.RuntimeError.rows[13]?).map (·.2) := by kernel_rfl
theorem nx92 : (Extern.findNext Tryd.f92).isNone = true := by kernel_rfl
theorem fd92 : Extern.find Tryd.f92 = (Extern.RuntimeError.rows[7]?).map (·.2) := by kernel_rfl
theorem nx93 : (Extern.findNext Tryd.f93).isNone = true := by kernel_rfl
theorem fd93 : Extern.find Tryd.f93 = (Extern.RuntimeError.rows[14]?).map (·.2) := by kernel_rfl
theorem nx94 : (Extern.findNext Tryd.f94).isNone = true := by kernel_rfl
theorem fd94 : Extern.find Tryd.f94 = (Extern.ReflectliteType.rows.getLast?).map (·.2) := by kernel_rfl

/-- ████ THE PROGRAM AT HAND FITS. ████ -/
theorem fit (Z : Nat → Prop) : Fit Tryd.prog 14 Z where
  nice := fun f fn h hne c hc => by
    have := ok_fn h
    simp only [okFn, hc, Bool.and_eq_true, Bool.or_eq_true, beq_iff_eq] at this
    exact this.2.resolve_left hne
  pre := fun args => by
    obtain ⟨c, h1, h2⟩ := pre_all
    refine ⟨.inl ?_, fun d hd => by simp [Frame.enter] at hd, rfl, rfl, rfl⟩
    have : (Frame.enter Tryd.prog 14 args .normal).todo = [.code c] := by
      simp [Frame.enter, Tryd.func14, h1]
    rw [this]
    exact h2
  call := fun f args => by
    cases hfn : (Tryd.prog.funcs[f]? : Option Func) with
    | none => exact call_none hfn args
    | some fn =>
      have hok := ok_fn hfn
      simp only [okFn, Bool.and_eq_true, bne_iff_ne, ne_eq] at hok
      cases hb : fn.body with
      | some c => exact call_body hfn (by rw [hb]; rfl) hok.1 args
      | none =>
        have hm := hok.2
        rw [hb] at hm
        simp only [List.contains_eq_mem, List.mem_cons, List.not_mem_nil, or_false, decide_eq_true_eq] at hm
        rcases hm with rfl | rfl | rfl | rfl | rfl | rfl | rfl | rfl | rfl | rfl | rfl | rfl | rfl | rfl | rfl | rfl | rfl | rfl | rfl | rfl | rfl
        · obtain rfl := Option.some.inj (Tryd.func0.symm.trans hfn); exact call_extern hfn hb hok.1 (next_no nx0) (find_no fd0) args
        · obtain rfl := Option.some.inj (Tryd.func1.symm.trans hfn); exact call_extern hfn hb hok.1 (next_no nx1) (find_no fd1) args
        · obtain rfl := Option.some.inj (Tryd.func79.symm.trans hfn); exact call_extern hfn hb hok.1 (next_no nx79) (find_row 4 fd79) args
        · obtain rfl := Option.some.inj (Tryd.func80.symm.trans hfn); exact call_extern hfn hb hok.1 (next_no nx80) (find_row 11 fd80) args
        · obtain rfl := Option.some.inj (Tryd.func81.symm.trans hfn); exact call_extern hfn hb hok.1 (next_no nx81) (find_row 0 fd81) args
        · obtain rfl := Option.some.inj (Tryd.func82.symm.trans hfn); exact call_extern hfn hb hok.1 (next_no nx82) (find_row 8 fd82) args
        · obtain rfl := Option.some.inj (Tryd.func83.symm.trans hfn); exact call_extern hfn hb hok.1 (next_no nx83) (find_row 1 fd83) args
        · obtain rfl := Option.some.inj (Tryd.func84.symm.trans hfn); exact call_extern hfn hb hok.1 (next_no nx84) (find_row 9 fd84) args
        · obtain rfl := Option.some.inj (Tryd.func85.symm.trans hfn); exact call_extern hfn hb hok.1 (next_no nx85) (find_row 2 fd85) args
        · obtain rfl := Option.some.inj (Tryd.func86.symm.trans hfn); exact call_extern hfn hb hok.1 (next_no nx86) (find_row 10 fd86) args
        · obtain rfl := Option.some.inj (Tryd.func87.symm.trans hfn); exact call_extern hfn hb hok.1 (next_no nx87) (find_row 5 fd87) args
        · obtain rfl := Option.some.inj (Tryd.func88.symm.trans hfn); exact call_extern hfn hb hok.1 (next_no nx88) (find_row 12 fd88) args
        · obtain rfl := Option.some.inj (Tryd.func89.symm.trans hfn); exact call_extern hfn hb hok.1 (next_no nx89) (find_row 6 fd89) args
        · obtain rfl := Option.some.inj (Tryd.func90.symm.trans hfn); exact call_extern hfn hb hok.1 (next_no nx90) (find_row 13 fd90) args
        · obtain rfl := Option.some.inj (Tryd.func91.symm.trans hfn); exact call_extern hfn hb hok.1 (next_no nx91) (find_no fd91) args
        · obtain rfl := Option.some.inj (Tryd.func92.symm.trans hfn); exact call_extern hfn hb hok.1 (next_no nx92) (find_row 7 fd92) args
        · obtain rfl := Option.some.inj (Tryd.func93.symm.trans hfn); exact call_extern hfn hb hok.1 (next_no nx93) (find_row 14 fd93) args
        · obtain rfl := Option.some.inj (Tryd.func94.symm.trans hfn); exact call_extern hfn hb hok.1 (next_no nx94) (find_kind fd94) args
        · obtain rfl := Option.some.inj (Tryd.func95.symm.trans hfn); exact call_extern hfn hb hok.1 (next_no nx95) (find_no fd95) args
        · obtain rfl := Option.some.inj (Tryd.func96.symm.trans hfn); exact call_extern hfn hb hok.1 (next_no nx96) (find_no fd96) args
        · obtain rfl := Option.some.inj (Tryd.func97.symm.trans hfn); exact call_extern hfn hb hok.1 (next_no nx97) (find_no fd97) args
end Go.Proofs.YtlanlkpamnoekaaDoor.Lk
