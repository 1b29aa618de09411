/- The deep reading: what a piece of code does, by recursion on its text. -/
import Derived.Test.YtlmpjhbfgakgdaaDoorAbApp
import Derived.RangeFuncIn
import Derived.OrdersIn
namespace Go.Ab
variable {ro : Option Nat}
set_option linter.unusedVariables false
set_option linter.unusedSimpArgs false

/-! ### Calls -/

def enters (P : Program) (f : FuncId) : Prop := ∃ fn, P.funcs[f]? = some fn ∧ fn.body.isSome = true ∧ (fn.name == "runtime.NumGoroutine") = false

/-- A call, over the heap that is seen. -/
def HCalls (P : Program) (f : FuncId) (args : Array Value) (H : Heap) (Q : Value → Heap → Prop) : Prop :=
  enters P f ∧ ∀ w, Agree H w → Calls P f args w fun e w' => ∃ v H', e = .returned v ∧ Turns H w H' w' ∧ Q v H'

theorem HCalls.mono {P : Program} {f : FuncId} {args : Array Value} {H : Heap} {Q Q' : Value → Heap → Prop} (h : HCalls P f args H Q) (hq : ∀ v H', Q v H' → Q' v H') :
    HCalls P f args H Q' :=
  ⟨h.1, fun w hw => (h.2 w hw).mono fun e w' ⟨v, H', he, ht, hv⟩ => ⟨v, H', he, ht, hq _ _ hv⟩⟩

/-- The fence that bars nothing, in an activation or in a round. -/
def FW (ro : Option Nat) : Fence := { fn := fun _ => True, depth := none, alive := false, round := ro }

theorem callsIn_fw {ro : Option Nat} {n : Nat} {P : Program} {f : FuncId} {args : Array Value} {w : World} {R : Ending → World → Prop} (h : Calls P f args w R) : CallsIn (FW ro) n P f args w R :=
  callsIn_wide.2 h

/-- A call of a loop's yield. -/
def YCalls (P : Program) (l : Nat) (args : Array Value) (H : Heap) (Q : Value → Heap → Prop) : Prop :=
  ∀ w, Agree H w → ∃ fn tmps assign body, (Instr.yield l args).run P w = .ok (.round l fn tmps assign body) w ∧
    RoundIn (FW none) 0 P l fn tmps assign body w fun e w' => ∃ v H', e = .returned v ∧ Turns H w H' w' ∧ Q v H'

/-- A call of a function's value. -/
def callV (P : Program) (fv : Value) (args : List Value) (H : Heap) (Q : Value → Heap → Prop) : Prop :=
  match fv with
  | .func (.func f) first captured => HCalls P f (first ++ args.toArray ++ captured) H Q
  | .func (.yield l) first captured => YCalls P l (first ++ args.toArray) H Q
  | _ => False

theorem YCalls.mono {P : Program} {l : Nat} {args : Array Value} {H : Heap} {Q Q' : Value → Heap → Prop} (h : YCalls P l args H Q) (hq : ∀ v H', Q v H' → Q' v H') : YCalls P l args H Q' :=
  fun w hw => by
    obtain ⟨fn, tmps, assign, body, h1, h2⟩ := h w hw
    exact ⟨fn, tmps, assign, body, h1, h2.mono fun e w' ⟨v, H', he, ht, hv⟩ => ⟨v, H', he, ht, hq _ _ hv⟩⟩

def fnV (f : Nat) : Value := .func (.func f) #[] #[]

/-- Has a function no body? -/
def bodyless (P : Program) (g : FuncId) : Bool := match P.funcs[g]? with | some fn => fn.body.isNone | none => false
/-- A call of a function without a body. -/
def xcV (P : Program) (g : FuncId) (args : List Value) (H : Heap) (Q : Value → Heap → Prop) : Prop :=
  ∀ w, Agree H w → ∃ v H' w', (callFunc g args.toArray).run P w = .ok (.value v) w' ∧ Turns H w H' w' ∧ Q v H'

/-- A method's call through an interface's value. -/
def invV (P : Program) (recv : Value) (name : String) (args : List Value) (H : Heap) (Q : Value → Heap → Prop) : Prop :=
  match recv with
  | .iface t v => ∃ f r, (∀ w, Agree H w → (Go.method (P.types.size + Made.depth) t v name).run P w = .ok (f, r) w) ∧
      ((bodyless P f = false ∧ callV P (.func (.func f) #[] #[]) (r :: args) H Q) ∨ (bodyless P f = true ∧ xcV P f (r :: args) H Q))
  | _ => False

/-- A type's zero. -/
def zeroK (P : Program) (t : TypeId) (k : Value → Prop) : Prop := match (P.info? t).bind (·.zero) with | some z => k z | none => False

/-- An assertion on an interface's value. -/
def taV (P : Program) (asserted : TypeId) (ok : Bool) (v : Value) (k : Value → Prop) : Prop :=
  match P.underlying asserted with
  | none => False
  | some (.interface want) => (match v with
    | .nilIface => ok = true ∧ zeroK P asserted fun z => k (.tuple #[z, .bool false])
    | .iface t u => (match P.info? t with
      | none => False
      | some ti => (match Instr.missingMethod want ti.methods with
        | none => k (match ok with | true => .tuple #[.iface t u, .bool true] | false => .iface t u)
        | some _ => ok = true ∧ zeroK P asserted fun z => k (.tuple #[z, .bool false])))
    | _ => False)
  | some _ => (match v with
    | .nilIface => ok = true ∧ zeroK P asserted fun z => k (.tuple #[z, .bool false])
    | .iface t u => (match t == asserted with
      | true => k (match ok with | true => .tuple #[u, .bool true] | false => u)
      | false => ok = true ∧ zeroK P asserted fun z => k (.tuple #[z, .bool false]))
    | _ => False)

theorem callV_fn {P : Program} {f : FuncId} {args : List Value} {H : Heap} {Q : Value → Heap → Prop} (h : HCalls P f args.toArray H Q) : callV P (fnV f) args H Q := by
  unfold callV fnV; simpa using h

theorem callV_cl {P : Program} {f : FuncId} {args cs : List Value} {H : Heap} {Q : Value → Heap → Prop} (h : callV P (fnV f) (args ++ cs) H Q) : callV P (.func (.func f) #[] cs.toArray) args H Q := by
  unfold callV fnV at h; unfold callV; simpa using h

theorem callV_mono {P : Program} {fv : Value} {args : List Value} {H : Heap} {Q Q' : Value → Heap → Prop} (h : callV P fv args H Q) (hq : ∀ v H', Q v H' → Q' v H') : callV P fv args H Q' := by
  unfold callV at *; split at h
  · exact h.mono hq
  · exact YCalls.mono h hq
  · exact h.elim

/-- A call, over the heap that is seen, that may panic. -/
def HCallsP (P : Program) (f : FuncId) (args : Array Value) (H : Heap) (Q : Value → Heap → Prop) (R : List PanicEntry → Heap → Prop) : Prop :=
  enters P f ∧ ∀ w, Agree H w → Calls P f args w fun e w' => ∃ H', Turns H w H' w' ∧ ((∃ v, e = .returned v ∧ Q v H') ∨ ∃ ch, e = .panicked ch ∧ R ch H')

theorem HCallsP.mono {P : Program} {f : FuncId} {args : Array Value} {H : Heap} {Q Q' : Value → Heap → Prop} {R R' : List PanicEntry → Heap → Prop} (h : HCallsP P f args H Q R)
    (hq : ∀ v H', Q v H' → Q' v H') (hr : ∀ ch H', R ch H' → R' ch H') : HCallsP P f args H Q' R' :=
  ⟨h.1, fun w hw => (h.2 w hw).mono fun e w' ⟨H', ht, h⟩ => ⟨H', ht, h.imp (fun ⟨v, he, hv⟩ => ⟨v, he, hq _ _ hv⟩) fun ⟨ch, he, hv⟩ => ⟨ch, he, hr _ _ hv⟩⟩⟩

/-- A call of a function's value that may panic. -/
def callP (P : Program) (fv : Value) (args : List Value) (H : Heap) (Q : Value → Heap → Prop) (R : List PanicEntry → Heap → Prop) : Prop :=
  match fv with
  | .func (.func f) first captured => HCallsP P f (first ++ args.toArray ++ captured) H Q R
  | _ => False

theorem callP_mono {P : Program} {fv : Value} {args : List Value} {H : Heap} {Q Q' : Value → Heap → Prop} {R R' : List PanicEntry → Heap → Prop} (h : callP P fv args H Q R)
    (hq : ∀ v H', Q v H' → Q' v H') (hr : ∀ ch H', R ch H' → R' ch H') : callP P fv args H Q' R' := by
  unfold callP at *; split at h
  · exact h.mono hq hr
  · exact h.elim

/-- A call that does not panic. -/
theorem callP_of {P : Program} {f : FuncId} {first captured : Array Value} {args : List Value} {H : Heap} {Q : Value → Heap → Prop} {R : List PanicEntry → Heap → Prop}
    (h : callV P (.func (.func f) first captured) args H Q) : callP P (.func (.func f) first captured) args H Q R := by
  unfold callV at h; unfold callP
  exact ⟨h.1, fun w hw => (h.2 w hw).mono fun e w' ⟨v, H', he, ht, hq⟩ => ⟨H', ht, .inl ⟨v, he, hq⟩⟩⟩

theorem callP_fn {P : Program} {f : FuncId} {args : List Value} {H : Heap} {Q : Value → Heap → Prop} {R : List PanicEntry → Heap → Prop} (h : HCallsP P f args.toArray H Q R) : callP P (fnV f) args H Q R := by
  unfold callP fnV; simpa using h

/-- What is to be so where there is a panic: none, where there is to be no panic. -/
abbrev PanR := Option (List PanicEntry → Env → Heap → Prop)

abbrev callR (P : Program) (R : PanR) (env : Env) (fv : Value) (args : List Value) (H : Heap) (Q : Value → Heap → Prop) : Prop :=
  match R with
  | none => callV P fv args H Q
  | some R => callP P fv args H Q fun ch H' => R ch env H'

/-- Is an interface's value looked at, whether it is none? -/
def nilC (d : TypeDesc) (y : Operand) : Bool := match d, y with | .interface _, .const .nilIface => true | _, _ => false
def isSt : TypeDesc → Bool
  | .struct _ => true
  | .array _ _ => true
  | _ => false
/-- A comparison of structs: that it answers is shown where it is read. -/
def eqV (P : Program) (t : TypeId) (op : BinOp) (x y : Value) (k : Value → Prop) : Prop := ∃ v, (∀ (ox oy : Operand) (w : World), (do eqGuard op t ox oy x y; Go.binOp op t x y : Sem Value).run P w = .ok v w) ∧ k v
def nilEq (op : BinOp) (a : Value) (k : Value → Prop) : Prop :=
  match op, a with
  | .eql, .nilIface => k (.bool true)
  | .neq, .nilIface => k (.bool false)
  | .eql, .iface _ _ => k (.bool false)
  | .neq, .iface _ _ => k (.bool true)
  | _, _ => False

/-- A type's shape. -/
def dsc (P : Program) (t : TypeId) : TypeDesc := (P.underlying t).getD .invalid

/-! ### Slots that are passed on -/

def findIx (l : List Nat) (i : Nat) : Option Nat := match l with | [] => none | x :: r => if x = i then some 0 else (findIx r i).map (· + 1)

/-- The value, the cells, that stand at a place of what is passed on. -/
def sv (s : List (List Value)) (j : Nat) : Value := (s.getD j []).getD 0 undef
def sc (s : List (List Value)) (j : Nat) : List Value := s.getD j []

/-- What is passed on is named by twice the slot's number, and one more where it is a box of the function's own. -/
def restoreAt (mods ls : List Nat) (s : List (List Value)) (i : Nat) (x : Slot) : Slot :=
  match findIx ls (2 * i + 1) with
  | some j => .priv (sc s j)
  | none => (match findIx ls (2 * i) with
    | some j => .val (sv s j)
    | none => if mods.contains i then .unk else (match x with | .ref _ _ => .unk | x => x))

/-- The boxes that may be written and are passed on. -/
def keeps (wr ls : List Nat) : List Nat := wr.filter fun i => ls.contains (2 * i + 1)

def restoreFrom (mods ls : List Nat) (s : List (List Value)) : Nat → Env → Env
  | _, [] => []
  | i, x :: r => restoreAt mods ls s i x :: restoreFrom mods ls s (i + 1) r

def restore (env : Env) (mods ls : List Nat) (s : List (List Value)) : Env := restoreFrom mods ls s 0 env

/-- What is passed on of an environment. -/
abbrev projK (env : Env) : List Nat → (List (List Value) → Prop) → Prop
  | [], k => k []
  | c :: r, k => (match c % 2 == 1, env[c / 2]? with
    | true, some (.priv cs) => projK env r fun s => k (cs :: s)
    | false, some (.val v) => projK env r fun s => k ([v] :: s)
    | _, _ => False)

/-- Ways that meet again. -/
def JoinPT (A : (List (List Value) → Heap → Prop) → Prop) (k : List (List Value) → Heap → Prop) : Prop := A k

/-- A loop. -/
def LoopPT (B : List (List Value) → Heap → (List (List Value) → Heap → Prop) → Prop) (s : List (List Value)) (H : Heap) : Prop :=
  ∃ (I : Nat → List (List Value) → Heap → Prop) (n : Nat), I n s H ∧ ∀ n s H, I n s H → B s H (fun s' H' => ∃ m, m < n ∧ I m s' H')

/-! ### Operations -/

abbrev baseOf (env : Env) (x : Operand) : Option (Nat × Nat × List Value) :=
  match x with
  | .tmp t => (match env[t]? with
    | some (.priv cs) => some (t, 0, cs)
    | some (.ref q o) => (match env[q]? with | some (.priv cs) => some (q, o, cs) | _ => none)
    | _ => none)
  | _ => none

abbrev putRef (env : Env) (d : Option Tmp) (q off : Nat) (k : Env → Prop) : Prop :=
  match d with
  | some d => (match env[d]? with
    | some (.priv _) => False
    | _ => forceK (env.set d (.ref q off)) k)
  | none => k env

abbrev putPriv (env : Env) (d : Option Tmp) (cs : List Value) (k : Env → Prop) : Prop :=
  match d with
  | some d => (match env[d]? with
    | some (.priv _) => False
    | some _ => forceK (env.set d (.priv cs)) k
    | none => False)
  | none => False

/-- A value's cells, whatever they hold. -/
abbrev cellsU (agg : Bool) (n : Nat) (v : Value) (k : List Value → Prop) : Prop :=
  match agg with
  | true => (match v with | .agg c => ifB (c.size == n) (k c.toList) False | _ => False)
  | false => ifB (okc v) (k [v]) False

abbrev opds (env : Env) : List Operand → (List Value → Prop) → Prop
  | [], k => k []
  | x :: r, k => opd env x fun v => opds env r fun vs => k (v :: vs)

abbrev opdsN (env : Env) : List (Nat × Operand) → (List (Nat × Value) → Prop) → Prop
  | [], k => k []
  | (i, x) :: r, k => opd env x fun v => opdsN env r fun vs => k ((i, v) :: vs)

abbrev opdO (env : Env) : Option Operand → (Option Value → Prop) → Prop
  | none, k => k none
  | some x, k => opd env x fun v => k (some v)

def selV (t : Bool) (a b : Value) : Value := match t with | true => a | false => b

abbrev aggN (P : Program) (t : TypeId) (k : Bool → Nat → Prop) : Prop :=
  match aggOf P t with
  | some a => (match szOf P t with
    | some n => ifB (a || n == 1) (k a n) False
    | none => False)
  | none => False

/-- A type's zero, size and bytes, as makers of slices want them. -/
abbrev elemN (P : Program) (e : TypeId) (k : Nat → Nat → List Value → Prop) : Prop :=
  match P.info? e with
  | some i => (match i.zero with
    | some z => ifB (i.size == 0 || 0 < z.cells.size) (k i.size i.bytes z.cells.toList) False
    | none => False)
  | none => False

/-- A builtin that only looks. -/
abbrev awpLook (P : Program) (b : Builtin) (ts : List TypeId) (vs : List Value) (H : Heap) (ret : Value → Prop) : Prop :=
  match b, ts, vs with
  | .len, [t], [x] => (match P.underlying t with
    | some (.array n _) => ret (.int .i64 n)
    | some (.slice _) => lenSl x H ret
    | some .string => lenStr x H ret
    | some (.map _ _) => lenMap x H ret
    | _ => False)
  | .min, _, [x, y] => minV x y ret
  | .max, _, [x, y] => maxV x y ret
  | .cap, [t], [x] => (match P.underlying t with | some (.slice _) => capSl x ret | _ => False)
  | _, _, _ => False

/-- A builtin's call. -/
abbrev awpBuiltin (P : Program) (b : Builtin) (ts : List TypeId) (vs : List Value) (H : Heap) (ret : Value → Heap → Prop) : Prop :=
  match b, ts, vs with
  | .append, [st, xt], [s, x] => (match P.underlying st, P.underlying xt with
    | some (.slice e), some d => (match d with
      | .int _ => elemN P e fun n bytes z => appZ e n bytes z s x H ret
      | _ => elemN P e fun n bytes z => ifB (bytes != 0) (appS e n bytes z s x H ret) False)
    | _, _ => False)
  | .copy, [dt, _], [d, x] => (match P.underlying dt with
    | some (.slice e) => (match szOf P e with | some n => cpS n d x H ret | none => False)
    | _ => False)
  | .clear, [t], [x] => (match P.underlying t with
    | some (.slice e) => elemN P e fun n bytes z => ifB (z.all okc) (clrS z x H ret) False
    | _ => False)
  | _, _, _ => False

/-- Operations that only look. -/
def quiet : Op → Bool
  | .move _ | .assign _ | .pick _ _ _ | .load _ _ | .fieldAddr _ _ _ | .indexAddr _ _ _ | .field _ _ _ | .index _ _ _ | .extract _ _ | .slice _ _ _ _ _
  | .binOp _ _ _ _ _ | .unOp _ _ _ | .nilCheck _ | .convert _ _ _ | .makeInterface _ _ | .makeFunc _ _ _ | .typeAssert _ _ _ _ | .lookup _ _ _ _ | .build _ _ => true
  | .call { callee := .builtin .len, .. } => true
  | .call { callee := .builtin .min, .. } => true
  | .call { callee := .builtin .max, .. } => true
  | .call { callee := .builtin .cap, .. } => true
  | _ => false

/-- What a looking operation leaves in its slot. -/
abbrev awpQ (P : Program) (o : Oper) (env : Env) (H : Heap) (k : Slot → Prop) : Prop :=
  match o.op with
  | .move x | .assign x => opd env x fun v => k (.val v)
  | .pick c a b => opd env c fun cv => asB cv fun t => opd env a fun av => opd env b fun bv => k (.val (selV t av bv))
  | .build t parts => ifB (hasZero P t && fieldsOk P t) (opdsN env parts.toList fun ps => buildV P t ps fun v => k (.val v)) False
  | .load t x => aggN P t fun agg n => (match baseOf env x with
    | some (_, off, cs) => ifB (decide (off + n ≤ cs.length)) (k (.val (mkV agg (seg cs off n)))) False
    | none => opd env x fun p => loadP agg n p H fun v => k (.val v))
  | .fieldAddr st x f => (match P.underlying st with
    | some (.struct fs) => (match fs[f]? with
      | some fd => (match szOf P fd.type with
        | some (n + 1) => (match baseOf env x with
          | some (q, off, _) => k (.ref q (off + fd.offset))
          | none => opd env x fun p => fldP fd.offset p fun v => k (.val v))
        | _ => False)
      | none => False)
    | _ => False)
  | .indexAddr t x ix => (match P.underlying t with
    | some (.slice e) => (match szOf P e with
      | some n => opd env x fun s => opd env ix fun i => idxS n s i fun v => k (.val v)
      | none => False)
    | some (.array len e) => (match szOf P e with
      | some n => opd env ix fun i => (match baseOf env x with
        | some (q, off, _) => idxR len i fun j => k (.ref q (off + j * n))
        | none => opd env x fun p => idxA len n p i fun v => k (.val v))
      | none => False)
    | _ => False)
  | .field st x f => (match P.underlying st with
    | some (.struct fs) => (match fs[f]? with
      | some fd => aggN P fd.type fun agg n => opd env x fun v => fldV agg fd.offset n v fun u => k (.val u)
      | none => False)
    | _ => False)
  | .index t x ix => (match P.underlying t with
    | some (.array len e) => aggN P e fun agg n => opd env x fun v => opd env ix fun i => idxV agg len n v i fun u => k (.val u)
    | _ => False)
  | .extract x i => opd env x fun v => extractV i v fun u => k (.val u)
  | .slice t x lo hi mx => ifB (!mx.isSome || hi.isSome) (opd env x fun v => opdO env lo fun l => opdO env hi fun h => opdO env mx fun m => (match P.underlying t with
    | some (.slice e) => (match szOf P e with | some n => slS n v l h m fun u => k (.val u) | none => False)
    | some (.array len e) => (match szOf P e with | some n => slA len n v l h m fun u => k (.val u) | none => False)
    | some .string => (match m with | none => slStr v l h fun u => k (.val u) | some _ => False)
    | _ => False)) False
  | .lookup t x ix ok => (match P.underlying t with
    | some (.map kt e) => (match P.underlying kt, (P.info? e).bind (·.zero) with
      | some (.int q), some z => opd env x fun m => opd env ix fun key => getM q z m key H fun v b => k (.val (match ok with | true => .tuple #[v, .bool b] | false => v))
      | _, _ => False)
    | _ => False)
  | .binOp op t x y _ => (match P.underlying t with
    | some d => opd env x fun a => opd env y fun b => (match nilC d y with
      | true => nilEq op a fun v => k (.val v)
      | false => (match isSt d with
        | true => eqV P t op a b fun v => k (.val v)
        | false => binV d op a b fun v => k (.val v)))
    | none => False)
  | .unOp op _ x => opd env x fun a => unV op a fun v => k (.val v)
  | .nilCheck x => opd env x fun a => nilV a fun v => k (.val v)
  | .convert s t x => (match P.underlying s, P.underlying t with
    | some _, some (.int q) => opd env x fun a => cvI q a fun v => k (.val v)
    | some (.slice e), some .string => (match P.underlying e with
      | some (.int .u8) => opd env x fun a => cvBS a H fun v => k (.val v)
      | _ => False)
    | _, _ => False)
  | .makeInterface t x => (match P.underlying t with
    | some (.interface _) => False
    | some _ => opd env x fun v => k (.val (.iface t v))
    | none => False)
  | .makeFunc fn first captured => opds env first.toList fun fs => opds env captured.toList fun cs => k (.val (.func fn fs.toArray cs.toArray))
  | .typeAssert x _ asserted ok => opd env x fun v => taV P asserted ok v fun u => k (.val u)
  | .call c => (match c.callee with
    | .builtin b => opds env c.args.toList fun vs => awpLook P b c.argTypes.toList vs H fun v => k (.val v)
    | _ => False)
  | _ => False

abbrev putAny (env : Env) (d : Option Tmp) (s : Slot) (k : Env → Prop) : Prop :=
  match s with
  | .val v => putS env d (.val v) k
  | .ref q off => putRef env d q off k
  | _ => False

abbrev awpOp (P : Program) (R : PanR) (pv wr : List Nat) (o : Oper) (env : Env) (H : Heap) (k : Env → Heap → Prop) : Prop :=
  match quiet o.op with
  | true => awpQ P o env H fun s => putAny env o.dst s fun env' => k env' H
  | false => (match o.op with
    | .alloc e => ifB (hasZero P e) (match o.dst with
        | some d => ifB (pv.contains d) (newT H fun H' => putPriv env o.dst (zeroL P e) fun env' => k env' H')
            (newC e (zeroL P e) H fun b H' => putS env o.dst (.val (.pointer (some ⟨b, 0, none⟩))) fun env' => k env' H')
        | none => False) False
    | .box e x => aggN P e fun agg n => opd env x fun v => cellsU agg n v fun cs => (match o.dst with
        | some d => ifB (pv.contains d) (newT H fun H' => putPriv env o.dst cs fun env' => k env' H')
            (newC e cs H fun b H' => putS env o.dst (.val (.pointer (some ⟨b, 0, none⟩))) fun env' => k env' H')
        | none => False)
    | .buildSlice t len parts => (match P.underlying t with
      | some (.slice e) => aggN P e fun agg n => elemN P e fun n' bytes z => ifB (n == n' && len * n ≤ 16777216) (opdsN env parts.toList fun ps =>
          bldS e n agg z len ps H fun v H' => putS env o.dst (.val v) fun env' => k env' H') False
      | _ => False)
    | .store t x y => (match o.dst with
      | some _ => False
      | none => aggN P t fun agg n => opd env y fun v => (match baseOf env x with
        | some (q, off, cs) => ifB (wr.contains q) (cellsV agg n v fun vs => ifB (decide (off + n ≤ cs.length)) (forceK (env.set q (.priv (setSeg cs off vs))) fun env' => k env' H) False) False
        | none => opd env x fun p => storeP agg n p v H fun H' => k env H'))
    | .makeSlice t l c => (match P.underlying t with
      | some (.slice e) => elemN P e fun n bytes z => opd env l fun lv => opd env c fun cv => mkS e n bytes z lv cv H fun v H' => putS env o.dst (.val v) fun env' => k env' H'
      | _ => False)
    | .makeMap t none => mkM H fun v H' => putS env o.dst (.val v) fun env' => k env' H'
    | .mapUpdate t m key x => (match o.dst with
      | some _ => False
      | none => (match P.underlying t with
        | some (.map kt _) => (match P.underlying kt with
          | some (.int q) => opd env m fun mv => opd env key fun kv => opd env x fun v => putM q mv kv v H fun H' => k env H'
          | _ => False)
        | _ => False))
    | .call c => (match c.callee with
      | .value f => (match f with
        | .func g => (match bodyless P g with
          | true => opds env c.args.toList fun vs => xcV P g vs H fun v H' => putS env o.dst (.val v) fun env' => k env' H'
          | false => opds env c.args.toList fun vs => callR P R env (.func (.func g) #[] #[]) vs H fun v H' => putS env o.dst (.val v) fun env' => k env' H')
        | f => opd env f fun fv => opds env c.args.toList fun vs => callV P fv vs H fun v H' => putS env o.dst (.val v) fun env' => k env' H')
      | .builtin b => opds env c.args.toList fun vs => awpBuiltin P b c.argTypes.toList vs H fun v H' => putS env o.dst (.val v) fun env' => k env' H'
      | .invoke x name => opd env x fun rv => opds env c.args.toList fun vs => invV P rv name vs H fun v H' => putS env o.dst (.val v) fun env' => k env' H')
    | .panic x => (match R with
      | none => False
      | some R => opd env x fun v => (match v with | .iface t u => R [{ v := .iface t u, recovered := false }] env H | _ => False))
    | _ => False)

/-- The slot of a box that a looking operation looks into. -/
def qBase (env : Env) (o : Oper) : Option Nat :=
  match o.op with
  | .load _ x => (baseOf env x).map (·.1)
  | _ => none

/-- What an environment says of the temporaries alone. -/
structure EnvOk (env : Env) (a : Act) : Prop where
  val : ∀ (i : Nat) (v : Value), env[i]? = some (.val v) → a.tmps[i]? = some v
  ref : ∀ (i q off : Nat), env[i]? = some (.ref q off) → ∃ b cs, env[q]? = some (.priv cs) ∧ a.tmps[q]? = some (.pointer (some ⟨b, 0, none⟩)) ∧ a.tmps[i]? = some (.pointer (some ⟨b, off, none⟩))
  priv : ∀ (i : Nat) (cs : List Value), env[i]? = some (.priv cs) → ∃ b, a.tmps[i]? = some (.pointer (some ⟨b, 0, none⟩))

theorem Rel.envOk {H0 : Heap} {w0 : World} {env : Env} {H : Heap} {a : Act} {w : World} (r : Rel H0 w0 env H a w) : EnvOk env a :=
  ⟨fun i v h => r.ok i _ h, fun i q off h => r.ok i _ h, fun i cs h => by obtain ⟨b, e, _, h2, _⟩ := r.ok i _ h; exact ⟨b, h2⟩⟩

theorem EnvOk.eval {env : Env} {a : Act} (r : EnvOk env a) {x : Operand} {v : Value} (h : env.value x = some v) : a.eval x = v := by
  unfold Env.value at h
  cases x with
  | tmp t =>
    simp only at h
    split at h
    · rename_i u hu
      have := r.val t _ hu
      simp only [Act.eval, Array.getD_eq_getD_getElem?, this]
      simpa using h
    · cases h
  | const u => simpa [Act.eval] using h
  | global g => simpa [Act.eval] using h
  | func f => simpa [Act.eval] using h

/-- The value that a slot stands for. -/
def SlotVal (env : Env) (a : Act) (s : Slot) (v : Value) : Prop :=
  s = .val v ∨ ∃ q off b cs, s = .ref q off ∧ env[q]? = some (.priv cs) ∧ a.tmps[q]? = some (.pointer (some ⟨b, 0, none⟩)) ∧ v = .pointer (some ⟨b, off, none⟩)

/-- Deferred calls are added in front, and but for rounds only marks. -/
def Grown (ro : Option Nat) (ds ds' : List Deferred) : Prop := (∃ l, ds' = l ++ ds ∧ ∀ d ∈ l, ∃ r, d.target = .collected r) ∧ (ro = none ∨ ds' = ds)
theorem Grown.refl (ro : Option Nat) (ds : List Deferred) : Grown ro ds ds := ⟨⟨[], rfl, by simp⟩, .inr rfl⟩
theorem Grown.trans {ro : Option Nat} {d0 d1 d2 : List Deferred} (h : Grown ro d0 d1) (h' : Grown ro d1 d2) : Grown ro d0 d2 := by
  obtain ⟨⟨l, rfl, h1⟩, h2⟩ := h
  obtain ⟨⟨l', rfl, h3⟩, h4⟩ := h'
  refine ⟨⟨l' ++ l, by simp, fun d hd => (List.mem_append.1 hd).elim (h3 d) (h1 d)⟩, ?_⟩
  rcases h2 with h2 | h2
  · exact .inl h2
  · exact h4.imp id fun h => h.trans h2

/-- What an operation turns: at most its own slot, and boxes that may be written. -/
structure Unch (ro : Option Nat) (M wr : List Nat) (env : Env) (a : Act) (env' : Env) (a' : Act) : Prop where
  size : a'.tmps.size = a.tmps.size
  tmps : ∀ i, i ∉ M → a'.tmps[i]? = a.tmps[i]?
  priv : ∀ i cs, env[i]? = some (.priv cs) → i ∉ M → i ∉ wr → env'[i]? = some (.priv cs)
  defers : Grown ro a.defers a'.defers

theorem Unch.refl (M wr : List Nat) (env : Env) (a : Act) : Unch ro M wr env a env a := ⟨rfl, fun _ _ => rfl, fun _ _ h _ _ => h, .refl _ _⟩
theorem Unch.trans {M wr : List Nat} {e0 e1 e2 : Env} {a0 a1 a2 : Act} (h : Unch ro M wr e0 a0 e1 a1) (h' : Unch ro M wr e1 a1 e2 a2) : Unch ro M wr e0 a0 e2 a2 :=
  ⟨h'.size.trans h.size, fun i hi => (h'.tmps i hi).trans (h.tmps i hi), fun i cs hc hm hw => h'.priv i cs (h.priv i cs hc hm hw) hm hw, h.defers.trans h'.defers⟩
theorem Unch.mono {M M' wr wr' : List Nat} {e0 e1 : Env} {a0 a1 : Act} (h : Unch ro M wr e0 a0 e1 a1) (hm : ∀ i ∈ M, i ∈ M') (hw : ∀ i ∈ wr, i ∈ wr') : Unch ro M' wr' e0 a0 e1 a1 :=
  ⟨h.size, fun i hi => h.tmps i fun hh => hi (hm i hh), fun i cs hc hi hiw => h.priv i cs hc (fun hh => hi (hm i hh)) fun hh => hiw (hw i hh), h.defers⟩

theorem opds_iff {env : Env} : ∀ {l : List Operand} {k : List Value → Prop}, opds env l k → ∃ vs, (∀ a, EnvOk env a → l.map a.eval = vs) ∧ k vs
  | [], k, h => ⟨[], fun _ _ => rfl, h⟩
  | x :: r, k, h => by
    obtain ⟨v, hv, h'⟩ := opd_iff h
    obtain ⟨vs, hvs, hk⟩ := opds_iff h'
    exact ⟨v :: vs, fun a hr => by simp only [List.map_cons, hr.eval hv, hvs a hr], hk⟩

theorem opdsN_iff {env : Env} : ∀ {l : List (Nat × Operand)} {k : List (Nat × Value) → Prop}, opdsN env l k →
    ∃ vs, (∀ a, EnvOk env a → l.map (fun (p : Nat × Operand) => (p.1, a.eval p.2)) = vs) ∧ k vs
  | [], k, h => ⟨[], fun _ _ => rfl, h⟩
  | (i, x) :: r, k, h => by
    obtain ⟨v, hv, h'⟩ := opd_iff h
    obtain ⟨vs, hvs, hk⟩ := opdsN_iff h'
    exact ⟨(i, v) :: vs, fun a hr => by simp only [List.map_cons, hr.eval hv, hvs a hr], hk⟩

theorem opdO_iff {env : Env} {x : Option Operand} {k : Option Value → Prop} (h : opdO env x k) : ∃ v, (∀ a, EnvOk env a → x.map a.eval = v) ∧ k v := by
  cases x with
  | none => exact ⟨none, fun _ _ => rfl, h⟩
  | some x =>
    obtain ⟨v, hv, hk⟩ := opd_iff h
    exact ⟨some v, fun a hr => by simp only [Option.map_some, hr.eval hv], hk⟩

theorem ifB_iff {b : Bool} {A : Prop} (h : ifB b A False) : b = true ∧ A := by
  unfold ifB at h; split at h
  · exact ⟨rfl, h⟩
  · exact h.elim

theorem aggN_iff {P : Program} {t : TypeId} {k : Bool → Nat → Prop} (h : aggN P t k) : ∃ agg n, aggOf P t = some agg ∧ szOf P t = some n ∧ (agg = false → n = 1) ∧ k agg n := by
  unfold aggN at h
  split at h
  · rename_i a ha
    split at h
    · rename_i n hn
      obtain ⟨hc, h⟩ := ifB_iff h
      exact ⟨a, n, ha, hn, fun e => by simpa [e] using hc, h⟩
    · exact h.elim
  · exact h.elim

theorem elemN_iff {P : Program} {e : TypeId} {k : Nat → Nat → List Value → Prop} (h : elemN P e k) :
    ∃ i z, P.info? e = some i ∧ i.zero = some z ∧ (i.size = 0 ∨ 0 < z.cells.size) ∧ k i.size i.bytes z.cells.toList := by
  unfold elemN at h
  split at h
  · rename_i i hi
    split at h
    · rename_i z hz
      unfold ifB at h
      split at h
      · rename_i hc
        simp only [Bool.or_eq_true, beq_iff_eq, decide_eq_true_eq] at hc
        exact ⟨i, z, hi, hz, hc, h⟩
      · exact h.elim
    · exact h.elim
  · exact h.elim

theorem baseOf_iff {env : Env} {x : Operand} {q off : Nat} {cs : List Value} (h : baseOf env x = some (q, off, cs)) :
    env[q]? = some (.priv cs) ∧ ∀ a, EnvOk env a → ∃ b, a.eval x = .pointer (some ⟨b, off, none⟩) ∧ a.tmps[q]? = some (.pointer (some ⟨b, 0, none⟩)) := by
  unfold baseOf at h
  split at h
  · rename_i t
    split at h
    · rename_i cs' hc
      cases h
      refine ⟨hc, fun a r => ?_⟩
      obtain ⟨b, h2⟩ := r.priv q _ hc
      exact ⟨b, by simp [Act.eval, Array.getD_eq_getD_getElem?, h2], h2⟩
    · rename_i q' o hr
      split at h
      · rename_i cs' hc
        cases h
        refine ⟨hc, fun a r => ?_⟩
        obtain ⟨b, cs2, h1, h2, h3⟩ := r.ref t _ _ hr
        exact ⟨b, by simp [Act.eval, Array.getD_eq_getD_getElem?, h3], h2⟩
      · cases h
    · cases h
  · cases h

/-- What is told behind a piece of code. -/
def Post (ro : Option Nat) (H0 : Heap) (w0 : World) (M wr : List Nat) (env : Env) (a : Act) (k : Env → Heap → Prop) (a' : Act) (w' : World) : Prop :=
  ∃ env' H', Rel H0 w0 env' H' a' w' ∧ k env' H' ∧ Unch ro M wr env a env' a'

theorem unch_put {env env' : Env} {a : Act} {d : Option Tmp} {v : Value} {wr : List Nat} (h : ∀ i cs, env[i]? = some (.priv cs) → i ∉ d.toList → env'[i]? = some (.priv cs)) :
    Unch ro d.toList wr env a env' (a.put d v) := by
  refine ⟨?_, ?_, fun i cs hc hm _ => h i cs hc hm, (by cases d <;> exact .refl _ _)⟩
  · cases d <;> simp [Act.put]
  · intro i hi
    cases d with
    | none => rfl
    | some d =>
      have : d ≠ i := fun e => hi (by simp [e])
      simp [Act.put, Array.getElem?_setIfInBounds_ne this]

section
variable {P : Program} {H0 : Heap} {w0 : World} {env : Env} {H H' : Heap} {a : Act} {w w' : World} {o : Oper} {wr : List Nat} {k : Env → Heap → Prop} {Q : Exit → Act → World → Prop}

theorem put_val {v : Value} (r : Rel H0 w0 env H a w) (ht : Turns H w H' w') (hp : putS env o.dst (.val v) (fun env' => k env' H')) :
    Post ro H0 w0 o.dst.toList wr env a k (a.put o.dst v) w' := by
  obtain ⟨env', hk, hc⟩ := putS_iff hp
  have r' := r.turn ht
  rcases hc with ⟨hd, rfl⟩ | ⟨t, hd, rfl, hn⟩
  · rw [hd]; exact ⟨_, _, r', hk, .refl _ _ _ _⟩
  · rw [hd]
    exact ⟨_, _, r'.putVal v hn, hk, unch_put fun i cs hc hm => by rw [List.getElem?_set_ne (fun e => hm (by simp [e]))]; exact hc⟩

theorem wp_run {ro : Option Nat} {K : Act → World → Prop} (hd : ∀ c, o.op ≠ .defer c) (h : o.uponIn (FW ro) 0 P a K Q ((execOp a.eval o).run P w)) : o.wpIn (FW ro) 0 P a w K Q :=
  ⟨fun _ _ => trivial, by rw [Oper.semAt_eq _ _ _ hd]; exact h⟩

theorem wp_value {ro : Option Nat} {v : Value} (hd : ∀ c, o.op ≠ .defer c) (hr : (execOp a.eval o).run P w = .ok (.value v) w') (h : Post ro H0 w0 o.dst.toList wr env a k (a.put o.dst v) w') :
    o.wpIn (FW ro) 0 P a w (Post ro H0 w0 o.dst.toList wr env a k) Q :=
  wp_run hd (by rw [hr]; exact h)

theorem wp_val {ro : Option Nat} {v : Value} (hd : ∀ c, o.op ≠ .defer c) (hr : (execOp a.eval o).run P w = .ok (.value v) w') (r : Rel H0 w0 env H a w) (ht : Turns H w H' w')
    (hp : putS env o.dst (.val v) (fun env' => k env' H')) : o.wpIn (FW ro) 0 P a w (Post ro H0 w0 o.dst.toList wr env a k) Q :=
  wp_value hd hr (put_val r ht hp)

theorem put_ref {q off b : Nat} {cs : List Value} (r : Rel H0 w0 env H a w) (hs : env[q]? = some (.priv cs)) (hb : a.tmps[q]? = some (.pointer (some ⟨b, 0, none⟩)))
    (hp : putRef env o.dst q off (fun env' => k env' H)) : Post ro H0 w0 o.dst.toList wr env a k (a.put o.dst (.pointer (some ⟨b, off, none⟩))) w := by
  unfold putRef at hp
  cases hd : o.dst with
  | none => rw [hd] at hp; exact ⟨_, _, r, hp, .refl _ _ _ _⟩
  | some d =>
    rw [hd] at hp
    simp only at hp
    split at hp
    · exact hp.elim
    · rename_i hn
      rw [forceK_eq] at hp
      exact ⟨_, _, r.putRef (fun cs hc => hn cs hc) hs hb, hp, unch_put fun i cs hc hm => by rw [List.getElem?_set_ne (fun e => hm (by simp [e]))]; exact hc⟩

theorem Rel.putPriv {t : Tmp} {cs : Array Value} {e : TypeId} {s0 : Slot} (r : Rel H0 w0 env H a w) (hs : env[t]? = some s0) (hn : ∀ cs, s0 ≠ .priv cs) :
    Rel H0 w0 (env.set t (.priv cs.toList)) (H.push tomb) (a.put (some t) (.pointer (some ⟨w.heap.size, 0, none⟩))) (w.alloc (.cells cs e (0, 0))) := by
  have hlt : t < env.length := (List.getElem?_eq_some_iff.1 hs).1
  have hn' : ∀ cs, env[t]? ≠ some (.priv cs) := fun cs h => by rw [hs] at h; exact hn cs (Option.some.inj h)
  have r1 := (r.turn (Turns.pushTomb r.agree (.cells cs e (0, 0)))).putVal (.pointer (some ⟨w.heap.size, 0, none⟩)) hn'
  have hnew : (H.push tomb)[w.heap.size]? = some tomb := by rw [r.agree.size]; simp
  have hneww : (w.alloc (.cells cs e (0, 0))).heap[w.heap.size]? = some (.cells cs e (0, 0)) := by
    show (w.heap.push (Obj.cells cs e (0, 0)))[w.heap.size]? = _
    simp
  have hold : ∀ (i : Nat) c p, env[i]? = some (.priv c) → a.tmps[i]? = some p → p ≠ .pointer (some ⟨w.heap.size, 0, none⟩) := by
    intro i c p hi hp e
    obtain ⟨b, e', h1, h2, h3, h4⟩ := r.ok i _ hi
    rw [h2] at hp; cases hp
    cases e
    have := (Array.getElem?_eq_some_iff.1 h3).1
    rw [r.agree.size] at this; omega
  refine ⟨r1.agree, r1.kept, by simpa using r1.len, ?_, ?_, r1.marks, r1.marksApart⟩
  · intro i s hi
    by_cases hti : t = i
    · subst hti
      rw [List.getElem?_set_self hlt] at hi
      cases hi
      refine ⟨w.heap.size, e, ?_, ?_, hnew, by simpa using hneww⟩
      · have := r.kept.size; rw [r.agree.size]; exact this
      · simp only [Act.put]; rw [Array.getElem?_setIfInBounds]; simp [r.len, hlt]
    · rw [List.getElem?_set_ne hti] at hi
      have := r1.ok i s (by rw [List.getElem?_set_ne hti]; exact hi)
      cases s with
      | unk => trivial
      | val v => exact this
      | priv c => exact this
      | ref q off =>
        obtain ⟨b, c, h1, h2, h3⟩ := this
        have hq : t ≠ q := by
          intro e; subst e
          rw [List.getElem?_set] at h1
          simp only [if_true] at h1
          split at h1 <;> cases h1
        exact ⟨b, c, by rw [List.getElem?_set_ne hq] at h1 ⊢; exact h1, h2, h3⟩
  · intro i j c c' p hi hj hpi hpj
    have conv : ∀ {x : Nat} {c p}, t ≠ x → (env.set t (.priv cs.toList))[x]? = some (.priv c) → (a.put (some t) (.pointer (some ⟨w.heap.size, 0, none⟩))).tmps[x]? = some p →
        env[x]? = some (.priv c) ∧ a.tmps[x]? = some p := by
      intro x c p hx h1 h2
      rw [List.getElem?_set_ne hx] at h1
      simp only [Act.put, Array.getElem?_setIfInBounds_ne hx] at h2
      exact ⟨h1, h2⟩
    have self : ∀ {p}, (a.put (some t) (.pointer (some ⟨w.heap.size, 0, none⟩))).tmps[t]? = some p → p = .pointer (some ⟨w.heap.size, 0, none⟩) := by
      intro p hp
      simp only [Act.put] at hp
      rw [Array.getElem?_setIfInBounds] at hp
      simp [r.len, hlt] at hp
      exact hp.symm
    by_cases hti : t = i
    · by_cases htj : t = j
      · exact hti.symm.trans htj
      · subst hti
        obtain ⟨h1, h2⟩ := conv htj hj hpj
        exact absurd (self hpi) (hold j _ _ h1 h2)
    · by_cases htj : t = j
      · subst htj
        obtain ⟨h1, h2⟩ := conv hti hi hpi
        exact absurd (self hpj) (hold i _ _ h1 h2)
      · obtain ⟨h1, h2⟩ := conv hti hi hpi
        obtain ⟨h3, h4⟩ := conv htj hj hpj
        exact r.apart i j _ _ p h1 h3 h2 h4

theorem put_priv {cs : Array Value} {e : TypeId} (r : Rel H0 w0 env H a w) (hp : Ab.putPriv env o.dst cs.toList (fun env' => k env' (H.push tomb))) :
    Post ro H0 w0 o.dst.toList wr env a k (a.put o.dst (.pointer (some ⟨w.heap.size, 0, none⟩))) (w.alloc (.cells cs e (0, 0))) := by
  unfold Ab.putPriv at hp
  cases hd : o.dst with
  | none => rw [hd] at hp; exact hp.elim
  | some d =>
    rw [hd] at hp
    simp only at hp
    split at hp
    · exact hp.elim
    · rename_i s hn hs
      rw [forceK_eq] at hp
      exact ⟨_, _, r.putPriv hs (fun cs hc => hn cs (by rw [hc])), hp, unch_put fun i cs hc hm => by rw [List.getElem?_set_ne (fun e => hm (by simp [e]))]; exact hc⟩
    · exact hp.elim

/-- A store into a box of the function's own. -/
theorem Rel.storePriv {q off b : Nat} {cs vs : List Value} {e : TypeId} (r : Rel H0 w0 env H a w) (hq : env[q]? = some (.priv cs)) (hb : a.tmps[q]? = some (.pointer (some ⟨b, 0, none⟩)))
    (hHb : H[b]? = some tomb) (hwb : w.heap[b]? = some (.cells cs.toArray e (0, 0))) (hb0 : H0.size ≤ b) :
    Rel H0 w0 (env.set q (.priv (setSeg cs off vs))) H a (w.setRow b (setSeg cs off vs).toArray) := by
  have hlt : q < env.length := (List.getElem?_eq_some_iff.1 hq).1
  have hagree : Agree H (w.setRow b (setSeg cs off vs).toArray) := by
    refine ⟨by simp [World.setRow, r.agree.size], fun x hx => ?_⟩
    have : x ≠ b := fun e => hx (e ▸ hHb)
    rw [setRow_other w b x _ this]; exact r.agree.same x hx
  have hkept : Kept H0 w0 H (w.setRow b (setSeg cs off vs).toArray) := by
    refine ⟨r.kept.os, r.kept.output, r.kept.size, fun x hx => ?_, fun x => ?_⟩
    rotate_right
    · by_cases hxb : x = b
      · subst hxb; rw [setRow_heap w x _ _ e _ hwb, ← r.kept.froz x, hwb]; rfl
      · rw [setRow_other w b x _ hxb]; exact r.kept.froz x
    have hx' : x ≠ b := by
      intro e; subst e
      have := (Array.getElem?_eq_some_iff.1 hx).1
      omega
    exact ⟨(r.kept.tombs x hx).1, (setRow_other w b x _ hx').trans (r.kept.tombs x hx).2⟩
  refine ⟨hagree, hkept, by simpa using r.len, ?_, ?_, ?_, r.marksApart⟩
  · intro i s hi
    by_cases hqi : q = i
    · subst hqi
      rw [List.getElem?_set_self hlt] at hi
      cases hi
      exact ⟨b, e, hb0, hb, hHb, setRow_heap w b _ _ e _ hwb⟩
    · rw [List.getElem?_set_ne hqi] at hi
      have := r.ok i s hi
      cases s with
      | unk => trivial
      | val v => exact this
      | priv c =>
        obtain ⟨b', e', h1, h2, h3, h4⟩ := this
        have hne : b' ≠ b := by
          intro e2; subst e2
          exact hqi (r.apart q i _ _ _ hq hi hb h2)
        exact ⟨b', e', h1, h2, h3, (setRow_other w b b' _ hne).trans h4⟩
      | ref p o' =>
        obtain ⟨b', c, h1, h2, h3⟩ := this
        by_cases hqp : q = p
        · subst hqp
          exact ⟨b', _, List.getElem?_set_self hlt, h2, h3⟩
        · exact ⟨b', c, by rw [List.getElem?_set_ne hqp]; exact h1, h2, h3⟩
  · intro i j c c' p hi hj
    have conv : ∀ {x : Nat} {c}, (env.set q (.priv (setSeg cs off vs)))[x]? = some (.priv c) → ∃ c0, env[x]? = some (.priv c0) := by
      intro x c hx
      by_cases hqx : q = x
      · subst hqx; exact ⟨cs, hq⟩
      · rw [List.getElem?_set_ne hqx] at hx; exact ⟨c, hx⟩
    obtain ⟨c0, h0⟩ := conv hi
    obtain ⟨c1, h1⟩ := conv hj
    exact r.apart i j c0 c1 p h0 h1
  · intro d hd
    refine (r.marks d hd).imp ?_ id
    rintro ⟨x, h1, h2, h3, h4⟩
    have hx : x ≠ b := by intro e2; subst e2; rw [hwb] at h4; cases h4
    exact ⟨x, h1, h2, h3, (setRow_other w b x _ hx).trans h4⟩

end

end Go.Ab
