/- Contracts: errors.As, of marks that wrap one another around a number: the model's entries for internal/reflectlite at this program's types. -/
import Derived.Test.YtioaanmeooonfaaDoorShErr
import Derived.Test.YtioaanmeooonfaaDoorShFault
import Derived.Test.YtioaanmeooonfaaDoorAbData
import Derived.Laws.Externs
import Derived.Stop.Asserts
namespace Go.Proofs.YtioaanmeooonfaaDoor
open Go.Ab Go.Extern
set_option linter.unusedVariables false
set_option linter.unusedSimpArgs false
set_option maxRecDepth 100000

variable {H : Heap} {Q : Value → Heap → Prop}

/-- The handle of a type. -/
abbrev hdl (t : Nat) : Value := .pointer (some ⟨1, t, none⟩)
abbrev rtV (t : Nat) : Value := .iface 81 (.agg #[hdl t])

theorem xc_pure {g : FuncId} {args : List Value} {v : Value} (hc : ∀ w, (callFunc g args.toArray).run Tryd.prog w = .ok (.value v) w) (hQ : Q v H) : xcV Tryd.prog g args H Q :=
  fun w hw => ⟨v, H, w, hc w, .refl hw, hQ⟩

theorem valueOf50 (t : Addr) (w : World) : (callFunc 25 #[.iface 50 (.pointer (some t))]).run Tryd.prog w
    = .ok (.value (.agg #[hdl 50, .pointer (some ⟨w.heap.size, 0, none⟩), .int .u64 150])) (w.alloc (.cells #[.pointer (some t)] 50)) := by kernel_rfl
theorem valueOf45 (t : Addr) (w : World) : (callFunc 25 #[.iface 45 (.pointer (some t))]).run Tryd.prog w
    = .ok (.value (.agg #[hdl 45, .pointer (some ⟨w.heap.size, 0, none⟩), .int .u64 150])) (w.alloc (.cells #[.pointer (some t)] 45)) := by kernel_rfl
theorem type50 (a : Addr) (w : World) : (callFunc 26 #[.agg #[hdl 50, .pointer (some a), .int .u64 150]]).run Tryd.prog w = .ok (.value (rtV 50)) w := by kernel_rfl
theorem typeOf45 (v : Value) (w : World) : (callFunc 33 #[.iface 45 v]).run Tryd.prog w = .ok (.value (rtV 45)) w := by kernel_rfl
theorem typeOf74 (v : Value) (w : World) : (callFunc 33 #[.iface 74 v]).run Tryd.prog w = .ok (.value (rtV 74)) w := by kernel_rfl
theorem typeOf22 (v : Value) (w : World) : (callFunc 33 #[.iface 22 v]).run Tryd.prog w = .ok (.value (rtV 22)) w := by kernel_rfl

theorem methodKind (h : Value) (w : World) : (Go.method (Tryd.prog.types.size + Made.depth) 81 (.agg #[h]) "Kind").run Tryd.prog w = .ok (52, h) w := by kernel_rfl
theorem methodElem (h : Value) (w : World) : (Go.method (Tryd.prog.types.size + Made.depth) 81 (.agg #[h]) "Elem").run Tryd.prog w = .ok (66, .agg #[h]) w := by kernel_rfl
theorem methodImplements (h : Value) (w : World) : (Go.method (Tryd.prog.types.size + Made.depth) 81 (.agg #[h]) "Implements").run Tryd.prog w = .ok (67, .agg #[h]) w := by kernel_rfl
theorem methodAssignable (h : Value) (w : World) : (Go.method (Tryd.prog.types.size + Made.depth) 81 (.agg #[h]) "AssignableTo").run Tryd.prog w = .ok (64, .agg #[h]) w := by kernel_rfl
theorem methodUnwrap (h : Value) (w : World) : (Go.method (Tryd.prog.types.size + Made.depth) 74 (.agg #[h]) "Unwrap").run Tryd.prog w = .ok (62, .agg #[h]) w := by kernel_rfl

theorem kind50 (w : World) : (callFunc 52 #[hdl 50]).run Tryd.prog w = .ok (.value (.int .u8 22)) w := by kernel_rfl
theorem kind45 (w : World) : (callFunc 52 #[hdl 45]).run Tryd.prog w = .ok (.value (.int .u8 22)) w := by kernel_rfl
theorem elem50 (w : World) : (callFunc 66 #[.agg #[hdl 50]]).run Tryd.prog w = .ok (.value (rtV 45)) w := by kernel_rfl
theorem implements45 (w : World) : (callFunc 67 #[.agg #[hdl 45], rtV 48]).run Tryd.prog w = .ok (.value (.bool true)) w := by kernel_rfl
theorem assign45 (w : World) : (callFunc 64 #[.agg #[hdl 45], rtV 45]).run Tryd.prog w = .ok (.value (.bool true)) w := by kernel_rfl
theorem assign74 (w : World) : (callFunc 64 #[.agg #[hdl 74], rtV 45]).run Tryd.prog w = .ok (.value (.bool false)) w := by kernel_rfl
theorem assign22 (w : World) : (callFunc 64 #[.agg #[hdl 22], rtV 45]).run Tryd.prog w = .ok (.value (.bool false)) w := by kernel_rfl

theorem ta_lack {t asserted : TypeId} {u : Value} {k : Value → Prop} {want : Array (String × TypeId)} {ti : TypeInfo} (hu : Tryd.prog.underlying asserted = some (.interface want)) (hi : Tryd.prog.info? t = some ti) (hl : lacking want ti.methods ≠ [])
    (hz : ∀ k, zeroK Tryd.prog asserted k = k .nilIface) (h : k (.tuple #[.nilIface, .bool false])) : taV Tryd.prog asserted true (.iface t u) k := by
  unfold taV
  rw [hu]
  simp only [hi]
  obtain ⟨m, hm⟩ := missingMethod_some hl
  rw [hm]
  refine ⟨trivial, ?_⟩
  rw [hz]
  exact h
theorem ta86_74 (u : Value) (k : Value → Prop) (h : k (.tuple #[.nilIface, .bool false])) : taV Tryd.prog 86 true (.iface 74 u) k :=
  ta_lack (want := #[("As", 88)]) (ti := Tryd.t74) (by kernel_rfl) (by kernel_rfl) (by rw [show lacking #[("As", 88)] Tryd.t74.methods = ["As"] by kernel_rfl]; simp) (fun k => by kernel_rfl) h
theorem ta86_22 (u : Value) (k : Value → Prop) (h : k (.tuple #[.nilIface, .bool false])) : taV Tryd.prog 86 true (.iface 22 u) k :=
  ta_lack (want := #[("As", 88)]) (ti := Tryd.t22) (by kernel_rfl) (by kernel_rfl) (by rw [show lacking #[("As", 88)] Tryd.t22.methods = ["As"] by kernel_rfl]; simp) (fun k => by kernel_rfl) h
theorem ta89_74 (u : Value) (k : Value → Prop) (h : k (.tuple #[.iface 74 u, .bool true])) : taV Tryd.prog 89 true (.iface 74 u) k := by
  have : taV Tryd.prog 89 true (.iface 74 u) k = k (.tuple #[.iface 74 u, .bool true]) := by kernel_rfl
  rw [this]; exact h
theorem ta89_22 (u : Value) (k : Value → Prop) (h : k (.tuple #[.nilIface, .bool false])) : taV Tryd.prog 89 true (.iface 22 u) k :=
  ta_lack (want := #[("Unwrap", 90)]) (ti := Tryd.t22) (by kernel_rfl) (by kernel_rfl) (by rw [show lacking #[("Unwrap", 90)] Tryd.t22.methods = ["Unwrap"] by kernel_rfl]; simp) (fun k => by kernel_rfl) h
theorem ta91_22 (u : Value) (k : Value → Prop) (h : k (.tuple #[.nilIface, .bool false])) : taV Tryd.prog 91 true (.iface 22 u) k :=
  ta_lack (want := #[("Unwrap", 93)]) (ti := Tryd.t22) (by kernel_rfl) (by kernel_rfl) (by rw [show lacking #[("Unwrap", 93)] Tryd.t22.methods = ["Unwrap"] by kernel_rfl]; simp) (fun k => by kernel_rfl) h

/-! ### Entries that read or write memory -/

theorem rlm (z : Sem Value) (f : TypeId → Addr → Nat → Nat → Sem Value) (v : Value) :
    ReflectliteValue.method z f #[v] = (do match ← ReflectliteValue.parts v with | none => z | some (t, a, fl) => f t a fl (fl % 32)) := rfl
theorem parts50 (a : Addr) (w : World) : (ReflectliteValue.parts (.agg #[hdl 50, .pointer (some a), .int .u64 150])).run Tryd.prog w = .ok (some (50, a, 150)) w := by kernel_rfl
theorem isNil50 (a p : Addr) (W : World) (ha : W.cell? a = some (.pointer (some p))) : (callFunc 27 #[.agg #[hdl 50, .pointer (some a), .int .u64 150]]).run Tryd.prog W = .ok (.value (.bool false)) W := by
  rw [@run_callFunc_extern Tryd.prog 27 _ (ReflectliteValue.method (ReflectliteValue.valueError "reflectlite.Value.IsNil" 0) ReflectliteValue.isNil) Tryd.func27 (by kernel_rfl) (by kernel_rfl) (by kernel_rfl) (by kernel_rfl)]
  rw [rlm]
  simp only [Sem.run_bind, parts50, Result.andThen]
  simp [ReflectliteValue.isNil, loadVar, isAgg, underlying, Tryd.underlying50, ha, Result.andThen]
theorem elemOf50 (w : World) : (Rtype.elem? 50).run Tryd.prog w = .ok (some 45) w := by kernel_rfl
theorem mk45 (p : Addr) (w : World) : (ReflectliteValue.mk 45 p ReflectliteValue.flagAddr).run Tryd.prog w = .ok (.agg #[hdl 45, .pointer (some p), .int .u64 406]) w := by kernel_rfl
theorem elemV50 (a p : Addr) (W : World) (ha : W.cell? a = some (.pointer (some p))) : (callFunc 34 #[.agg #[hdl 50, .pointer (some a), .int .u64 150]]).run Tryd.prog W = .ok (.value (.agg #[hdl 45, .pointer (some p), .int .u64 406])) W := by
  rw [@run_callFunc_extern Tryd.prog 34 _ (ReflectliteValue.method (ReflectliteValue.valueError "reflectlite.Value.Elem" 0) ReflectliteValue.elem) Tryd.func34 (by kernel_rfl) (by kernel_rfl) (by kernel_rfl) (by kernel_rfl)]
  rw [rlm]
  simp only [Sem.run_bind, parts50, Result.andThen]
  simp [ReflectliteValue.elem, loadVar, isAgg, underlying, Tryd.underlying50, ha, Result.andThen, elemOf50, mk45]
theorem rls (v x : Value) : ReflectliteValue.set #[v, x] = (do
    let (some (dst, a, fl), some (src, b, _)) := (← ReflectliteValue.parts v, ← ReflectliteValue.parts x)
      | unsupported (.noEntry "extern/(internal/reflectlite.Value).Set.zeroValue")
    if fl / ReflectliteValue.flagAddr % 2 == 0 then unsupported (.noEntry "extern/(internal/reflectlite.Value).Set.unaddressable")
    let val ← loadVar src b
    if ← Rtype.directlyAssignable dst src then storeVar dst a val
    else if ← Rtype.implements dst src then
      if (← Rtype.kind src) == 20 then
        match val with
        | .nilIface => unsupported (.noEntry "extern/reflectlite: a nil value of one interface type handed on as a value of another")
        | _ => storeVar dst a val
      else storeVar dst a (.iface src val)
    else panicString ("reflectlite.Set: value of type " ++ (← Rtype.spelt src) ++ " is not assignable to type " ++ (← Rtype.spelt dst))
    pure (.tuple #[])) := rfl
theorem parts45a (a : Addr) (w : World) : (ReflectliteValue.parts (.agg #[hdl 45, .pointer (some a), .int .u64 406])).run Tryd.prog w = .ok (some (45, a, 406)) w := by kernel_rfl
theorem parts45 (a : Addr) (w : World) : (ReflectliteValue.parts (.agg #[hdl 45, .pointer (some a), .int .u64 150])).run Tryd.prog w = .ok (some (45, a, 150)) w := by kernel_rfl
theorem direct45 (w : World) : (Rtype.directlyAssignable 45 45).run Tryd.prog w = .ok true w := by kernel_rfl
theorem size45 (w : World) : (sizeOf 45).run Tryd.prog w = .ok 1 w := by kernel_rfl
theorem set45 (t : Nat) (b e : Addr) (c : Array Value) (el : TypeId) (W : World) (hb : W.cell? b = some (.pointer (some e))) (ht : W.heap[t]? = some (.cells c el (0, 0))) (hc : 1 ≤ c.size) :
    (callFunc 35 #[.agg #[hdl 45, .pointer (some ⟨t, 0, none⟩), .int .u64 406], .agg #[hdl 45, .pointer (some b), .int .u64 150]]).run Tryd.prog W
      = .ok (.value (.tuple #[])) (W.setRow t (setSeg c.toList 0 [.pointer (some e)]).toArray) := by
  rw [@run_callFunc_extern Tryd.prog 35 _ ReflectliteValue.set Tryd.func35 (by kernel_rfl) (by kernel_rfl) (by kernel_rfl) (by kernel_rfl)]
  rw [rls]
  simp only [Sem.run_bind, parts45a, parts45, Result.andThen]
  have h := run_storeCells_block (P := Tryd.prog) (w := W) (o := 0) [.pointer (some e)] ht (by simpa using hc) (by intro x hx; simp at hx; subst hx; rfl)
  simp [ReflectliteValue.flagAddr, loadVar, isAgg, underlying, Tryd.underlying45, hb, Result.andThen, direct45, storeVar, Value.cells, size45, h]

end Go.Proofs.YtioaanmeooonfaaDoor
