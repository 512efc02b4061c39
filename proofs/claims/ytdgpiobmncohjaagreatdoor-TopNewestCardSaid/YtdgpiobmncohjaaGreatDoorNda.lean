/-
  errors.As at the target '*api.Errno', of an error that wraps a number once: it finds the number.; The array of pages: its small functions.; errors.As at the target '*api.Errno', as a contract; fault.Code.; The array of pages: whether it can answer; which mishap waits.
-/
import Derived.Test.YtdgpiobmncohjaaGreatDoorAwGlob
import Derived.Test.YtdgpiobmncohjaaGreatDoorProg
import Derived.LaidEql
import Derived.Stop.Asserts
import Derived.RowKitTokens
import Derived.Test.YtdgpiobmncohjaaGreatDoorCodeN
set_option maxRecDepth 100000
set_option linter.unusedSimpArgs false
set_option linter.unusedVariables false
namespace Go.Proofs.YtdgpiobmncohjaaGreatDoor.Aw
open Go.RowKit Go.Extern.Stop Go.Stop Go.Extern

/- 36: api.Errno; 213: *api.Errno; 27: error; 144: *fault.Fault; 272: reflectlite's rtype -/
theorem as_valueOf64 (t : Addr) (w : World) : (ReflectliteValue.unpack (.iface 213 (.pointer (some t)))).run Tryz.prog w
    = .ok (.agg #[.pointer (some ⟨1, 213, none⟩), .pointer (some ⟨w.heap.size, 0, none⟩), .int .u64 150]) (w.alloc (.cells #[.pointer (some t)] 213)) := by kernel_rfl
theorem as_type64 (a : Addr) (w : World) : (ReflectliteValue.methodAny (ReflectliteValue.valueError "reflectlite.Value.Type" 0) (fun t _ _ _ => ReflectliteType.toType t) #[.agg #[.pointer (some ⟨1, 213, none⟩), .pointer (some a), .int .u64 150]]).run Tryz.prog w
    = .ok (.iface 272 (.agg #[.pointer (some ⟨1, 213, none⟩)])) w := by kernel_rfl
theorem as_kind64 (w : World) : ((ReflectliteType.abiMethod fun t => (fun a : Nat => Value.int IntKind.u8 (a : Int)) <$> Rtype.kind t) #[.pointer (some ⟨1, 213, none⟩)]).run Tryz.prog w = .ok (.int .u8 22) w := by kernel_rfl
theorem as_kind26 (w : World) : ((ReflectliteType.abiMethod fun t => (fun a : Nat => Value.int IntKind.u8 (a : Int)) <$> Rtype.kind t) #[.pointer (some ⟨1, 36, none⟩)]).run Tryz.prog w = .ok (.int .u8 2) w := by kernel_rfl
theorem as_rlm (z : Sem Value) (f : TypeId → Addr → Nat → Nat → Sem Value) (v : Value) :
    ReflectliteValue.method z f #[v] = (do match ← ReflectliteValue.parts v with | none => z | some (t, a, fl) => f t a fl (fl % 32)) := rfl
theorem as_parts64 (a : Addr) (w : World) : (ReflectliteValue.parts (.agg #[.pointer (some ⟨1, 213, none⟩), .pointer (some a), .int .u64 150])).run Tryz.prog w = .ok (some (213, a, 150)) w := by kernel_rfl
theorem as_isNil64 (a p : Addr) (W : World) (ha : W.cell? a = some (.pointer (some p))) :
    (ReflectliteValue.method (ReflectliteValue.valueError "reflectlite.Value.IsNil" 0) ReflectliteValue.isNil #[.agg #[.pointer (some ⟨1, 213, none⟩), .pointer (some a), .int .u64 150]]).run Tryz.prog W = .ok (.bool false) W := by
  rw [as_rlm]
  simp only [Sem.run_bind, as_parts64, Result.andThen]
  simp [ReflectliteValue.isNil, loadVar, isAgg, underlying, Tryz.underlying213, ha, Result.andThen]
theorem as_elem64 (w : World) : (ReflectliteType.method ReflectliteType.elem #[.agg #[.pointer (some ⟨1, 213, none⟩)]]).run Tryz.prog w = .ok (.iface 272 (.agg #[.pointer (some ⟨1, 36, none⟩)])) w := by kernel_rfl
theorem as_implements26 (w : World) : (ReflectliteType.relation "Implements" ReflectliteType.implements_ #[.agg #[.pointer (some ⟨1, 36, none⟩)], .iface 272 (.agg #[.pointer (some ⟨1, 27, none⟩)])]).run Tryz.prog w = .ok (.bool true) w := by kernel_rfl
theorem as_typeOf85 (v : Value) (w : World) : (ReflectliteType.typeOf #[.iface 144 v]).run Tryz.prog w = .ok (.iface 272 (.agg #[.pointer (some ⟨1, 144, none⟩)])) w := by kernel_rfl
theorem as_typeOf26 (v : Value) (w : World) : (ReflectliteType.typeOf #[.iface 36 v]).run Tryz.prog w = .ok (.iface 272 (.agg #[.pointer (some ⟨1, 36, none⟩)])) w := by kernel_rfl
theorem as_assignable85 (w : World) : (ReflectliteType.relation "AssignableTo" ReflectliteType.assignableTo #[.agg #[.pointer (some ⟨1, 144, none⟩)], .iface 272 (.agg #[.pointer (some ⟨1, 36, none⟩)])]).run Tryz.prog w = .ok (.bool false) w := by kernel_rfl
theorem as_assignable26 (w : World) : (ReflectliteType.relation "AssignableTo" ReflectliteType.assignableTo #[.agg #[.pointer (some ⟨1, 36, none⟩)], .iface 272 (.agg #[.pointer (some ⟨1, 36, none⟩)])]).run Tryz.prog w = .ok (.bool true) w := by kernel_rfl
theorem as_valueOf26 (e : Int) (w : World) : (ReflectliteValue.unpack (.iface 36 (.int .i64 e))).run Tryz.prog w
    = .ok (.agg #[.pointer (some ⟨1, 36, none⟩), .pointer (some ⟨w.heap.size, 0, none⟩), .int .u64 130]) (w.alloc (.cells #[.int .i64 e] 36)) := by kernel_rfl
theorem as_elemOf64 (w : World) : (Rtype.elem? 213).run Tryz.prog w = .ok (some 36) w := by kernel_rfl
theorem as_mk26 (p : Addr) (w : World) : (ReflectliteValue.mk 36 p ReflectliteValue.flagAddr).run Tryz.prog w = .ok (.agg #[.pointer (some ⟨1, 36, none⟩), .pointer (some p), .int .u64 386]) w := by kernel_rfl
theorem as_elemV64 (a p : Addr) (W : World) (ha : W.cell? a = some (.pointer (some p))) :
    (ReflectliteValue.method (ReflectliteValue.valueError "reflectlite.Value.Elem" 0) ReflectliteValue.elem #[.agg #[.pointer (some ⟨1, 213, none⟩), .pointer (some a), .int .u64 150]]).run Tryz.prog W
      = .ok (.agg #[.pointer (some ⟨1, 36, none⟩), .pointer (some p), .int .u64 386]) W := by
  rw [as_rlm]
  simp only [Sem.run_bind, as_parts64, Result.andThen]
  simp [ReflectliteValue.elem, loadVar, isAgg, underlying, Tryz.underlying213, ha, Result.andThen, as_elemOf64, as_mk26]
theorem as_rls (v x : Value) : ReflectliteValue.set #[v, x] = (do
    let (some (dst, a, fl), some (src, b, _)) := (← ReflectliteValue.parts v, ← ReflectliteValue.parts x)
      | unsupported (.noEntry "extern/(internal/reflectlite.Value).Set.zeroValue")
    if fl / ReflectliteValue.flagAddr % 2 == 0 then unsupported (.noEntry "extern/(internal/reflectlite.Value).Set.unaddressable")
    let val ← loadVar src b
    if ← Rtype.directlyAssignable dst src then storeVar dst a val
    else if ← Rtype.implements dst src then
      if (← Rtype.kind src) == 20 then
        match val with
        | .nilIface => unsupported (.noEntry "extern/reflectlite: a nil value of one interface type handed on as a value of another")
        | _ => storeVar dst a val
      else storeVar dst a (.iface src val)
    else panicString ("reflectlite.Set: value of type " ++ (← Rtype.spelt src) ++ " is not assignable to type " ++ (← Rtype.spelt dst))
    pure (.tuple #[])) := rfl
theorem as_parts26a (a : Addr) (w : World) : (ReflectliteValue.parts (.agg #[.pointer (some ⟨1, 36, none⟩), .pointer (some a), .int .u64 386])).run Tryz.prog w = .ok (some (36, a, 386)) w := by kernel_rfl
theorem as_parts26 (a : Addr) (w : World) : (ReflectliteValue.parts (.agg #[.pointer (some ⟨1, 36, none⟩), .pointer (some a), .int .u64 130])).run Tryz.prog w = .ok (some (36, a, 130)) w := by kernel_rfl
theorem as_direct26 (w : World) : (Rtype.directlyAssignable 36 36).run Tryz.prog w = .ok true w := by kernel_rfl
theorem as_set26 (ta b : Addr) (e : Int) (old : Value) (W : World) (hb : W.cell? b = some (.int .i64 e)) (ht : W.cell? ta = some old) (hf : W.frozen? ta = false) :
    (ReflectliteValue.set #[.agg #[.pointer (some ⟨1, 36, none⟩), .pointer (some ta), .int .u64 386], .agg #[.pointer (some ⟨1, 36, none⟩), .pointer (some b), .int .u64 130]]).run Tryz.prog W
      = .ok (.tuple #[]) (W.setCell ta (.int .i64 e)) := by
  rw [as_rls]
  simp only [Sem.run_bind, as_parts26a, as_parts26, Result.andThen]
  simp [ReflectliteValue.flagAddr, loadVar, isAgg, underlying, Tryz.underlying36, hb, Result.andThen, as_direct26, storeVar, Value.cells, storeCells, Addr.add]
  rw [run_store Tryz.prog W ta _ _ (by rfl)]
  simp [ht, hf]

theorem as_mKind (h : Value) (w : World) : (Go.method 429 272 (.agg #[h]) "Kind").run Tryz.prog w = .ok (214, h) w := by kernel_rfl
theorem as_mElem (h : Value) (w : World) : (Go.method 429 272 (.agg #[h]) "Elem").run Tryz.prog w = .ok (234, .agg #[h]) w := by kernel_rfl
theorem as_mImpl (h : Value) (w : World) : (Go.method 429 272 (.agg #[h]) "Implements").run Tryz.prog w = .ok (235, .agg #[h]) w := by kernel_rfl
theorem as_mAssign (h : Value) (w : World) : (Go.method 429 272 (.agg #[h]) "AssignableTo").run Tryz.prog w = .ok (232, .agg #[h]) w := by kernel_rfl
theorem as_mUnwrap (v : Value) (w : World) : (Go.method 429 144 v "Unwrap").run Tryz.prog w = .ok (223, v) w := by kernel_rfl
theorem as_noAs (v : Value) (xT : TypeId) (w : World) : (Instr.typeAssert (.iface 144 v) xT 284 true).run Tryz.prog w = .ok (.tuple #[.nilIface, .bool false]) w := run_typeAssert_lacksB Tryz.underlying284 (by kernel_rfl) (by kernel_rfl) v xT w
theorem as_isUnwrap (v : Value) (xT : TypeId) (w : World) : (Instr.typeAssert (.iface 144 v) xT 277 true).run Tryz.prog w = .ok (.tuple #[.iface 144 v, .bool true]) w := run_typeAssert_hasB Tryz.underlying277 (by kernel_rfl) v xT w

set_option maxHeartbeats 4000000 in
theorem as_hit (b : Nat) (t : Addr) (e : Int) (old : Value) (w : World) (hg : GlobOk w) (hp : w.cell? ⟨b, 2, none⟩ = some (.iface 36 (.int .i64 e))) (ht0 : w.cell? t = some old) (hf0 : w.frozen? t = false) :
    Calls Tryz.prog 123 #[.iface 144 (.pointer (some ⟨b, 0, none⟩)), .iface 213 (.pointer (some t))] w fun ev w' => ev = .returned (.bool true) ∧ w' = ((((w.alloc (.cells #[.pointer (some t)] 213)).alloc (.cells #[.pointer (some ⟨1, 213, none⟩), .pointer (some ⟨w.heap.size, 0, none⟩), .int .u64 150] 246)).alloc (.cells #[.pointer (some ⟨1, 213, none⟩), .pointer (some ⟨w.heap.size, 0, none⟩), .int .u64 150] 246)).alloc (.cells #[.int .i64 e] 36)).setCell t (.int .i64 e) := by
  have h43 := @run_callFunc_extern Tryz.prog 154 _ (fun args => ReflectliteValue.unpack (args.getD 0 (.tuple #[]))) Tryz.func154 (by kernel_rfl) (by kernel_rfl) (by kernel_rfl) (by kernel_rfl)
  have h44 := @run_callFunc_extern Tryz.prog 155 _ (ReflectliteValue.methodAny (ReflectliteValue.valueError "reflectlite.Value.Type" 0) (fun t _ _ _ => ReflectliteType.toType t)) Tryz.func155 (by kernel_rfl) (by kernel_rfl) (by kernel_rfl) (by kernel_rfl)
  have h45 := @run_callFunc_extern Tryz.prog 156 _ (ReflectliteValue.method (ReflectliteValue.valueError "reflectlite.Value.IsNil" 0) ReflectliteValue.isNil) Tryz.func156 (by kernel_rfl) (by kernel_rfl) (by kernel_rfl) (by kernel_rfl)
  have h79 := @run_callFunc_extern Tryz.prog 214 _ (ReflectliteType.abiMethod fun t => do pure (.int .u8 (← Rtype.kind t))) Tryz.func214 (by kernel_rfl) (by kernel_rfl) (by kernel_rfl) (by kernel_rfl)
  have h92 := @run_callFunc_extern Tryz.prog 234 _ (ReflectliteType.method ReflectliteType.elem) Tryz.func234 (by kernel_rfl) (by kernel_rfl) (by kernel_rfl) (by kernel_rfl)
  have h93 := @run_callFunc_extern Tryz.prog 235 _ (ReflectliteType.relation "Implements" ReflectliteType.implements_) Tryz.func235 (by kernel_rfl) (by kernel_rfl) (by kernel_rfl) (by kernel_rfl)
  have h57 := @run_callFunc_extern Tryz.prog 152 _ ReflectliteType.typeOf Tryz.func152 (by kernel_rfl) (by kernel_rfl) (by kernel_rfl) (by kernel_rfl)
  have h90 := @run_callFunc_extern Tryz.prog 232 _ (ReflectliteType.relation "AssignableTo" ReflectliteType.assignableTo) Tryz.func232 (by kernel_rfl) (by kernel_rfl) (by kernel_rfl) (by kernel_rfl)
  have h58 := @run_callFunc_extern Tryz.prog 176 _ (ReflectliteValue.method (ReflectliteValue.valueError "reflectlite.Value.Elem" 0) ReflectliteValue.elem) Tryz.func176 (by kernel_rfl) (by kernel_rfl) (by kernel_rfl) (by kernel_rfl)
  have h59 := @run_callFunc_extern Tryz.prog 177 _ ReflectliteValue.set Tryz.func177 (by kernel_rfl) (by kernel_rfl) (by kernel_rfl) (by kernel_rfl)
  have tO := as_typeOf85
  have tO2 := as_typeOf26
  have mA := as_mAssign
  have a85 := as_assignable85
  have a26 := as_assignable26
  have v26 := as_valueOf26
  have f6 := as_valueOf64
  have f7 := as_type64
  have mK := as_mKind
  have mE := as_mElem
  have mI := as_mImpl
  have mU := as_mUnwrap
  have nA := as_noAs
  have iU := as_isUnwrap
  have k64 := as_kind64
  have k26 := as_kind26
  have e64 := as_elem64
  have i26 := as_implements26
  have hg' : w.cell? ⟨0, 0, none⟩ = some (.iface 272 (.agg #[.pointer (some ⟨1, 27, none⟩)])) := hg
  have n8 := as_isNil64 ⟨w.heap.size, 0, none⟩ t ((w.alloc (.cells #[.pointer (some t)] 213)).alloc (.cells #[.pointer (some ⟨1, 213, none⟩), .pointer (some ⟨w.heap.size, 0, none⟩), .int .u64 150] 246)) (by simp)
  have hlt : 0 < w.heap.size := hg.pos
  have hg2 : ((w.alloc (.cells #[.pointer (some t)] 213)).alloc (.cells #[.pointer (some ⟨1, 213, none⟩), .pointer (some ⟨w.heap.size, 0, none⟩), .int .u64 150] 246)).cell? ⟨0, 0, none⟩ = some (.iface 272 (.agg #[.pointer (some ⟨1, 27, none⟩)])) := by
    rw [World.cell?_alloc_lt _ _ ⟨0, 0, none⟩ (by simp), World.cell?_alloc_lt _ _ ⟨0, 0, none⟩ hlt]; exact hg'
  have htl : t.block < w.heap.size := by
    rcases Nat.lt_or_ge t.block w.heap.size with h | h
    · exact h
    · simp [World.cell?, Array.getElem?_eq_none h] at ht0
  have hbl : b < w.heap.size := by
    rcases Nat.lt_or_ge b w.heap.size with h | h
    · exact h
    · simp [World.cell?, Array.getElem?_eq_none h] at hp
  have hp3 : (((w.alloc (.cells #[.pointer (some t)] 213)).alloc (.cells #[.pointer (some ⟨1, 213, none⟩), .pointer (some ⟨w.heap.size, 0, none⟩), .int .u64 150] 246)).alloc (.cells #[.pointer (some ⟨1, 213, none⟩), .pointer (some ⟨w.heap.size, 0, none⟩), .int .u64 150] 246)).cell? ⟨b, 2, none⟩ = some (.iface 36 (.int .i64 e)) := by
    rw [World.cell?_alloc_lt _ _ _ (by simp; omega), World.cell?_alloc_lt _ _ _ (by simp; omega), World.cell?_alloc_lt _ _ _ hbl]; exact hp
  have el := as_elemV64 ⟨w.heap.size, 0, none⟩ t (((w.alloc (.cells #[.pointer (some t)] 213)).alloc (.cells #[.pointer (some ⟨1, 213, none⟩), .pointer (some ⟨w.heap.size, 0, none⟩), .int .u64 150] 246)).alloc (.cells #[.pointer (some ⟨1, 213, none⟩), .pointer (some ⟨w.heap.size, 0, none⟩), .int .u64 150] 246)) (by rw [World.cell?_alloc_lt _ _ ⟨w.heap.size, 0, none⟩ (by simp; omega)]; simp)
  have st := as_set26 t ⟨w.heap.size + 1 + 1 + 1, 0, none⟩ e old ((((w.alloc (.cells #[.pointer (some t)] 213)).alloc (.cells #[.pointer (some ⟨1, 213, none⟩), .pointer (some ⟨w.heap.size, 0, none⟩), .int .u64 150] 246)).alloc (.cells #[.pointer (some ⟨1, 213, none⟩), .pointer (some ⟨w.heap.size, 0, none⟩), .int .u64 150] 246)).alloc (.cells #[.int .i64 e] 36))
    (by rw [World.cell?_alloc_at _ _ _ _ (by simp)]; rfl)
    (by rw [World.cell?_alloc_lt _ _ t (by simp; omega), World.cell?_alloc_lt _ _ t (by simp; omega), World.cell?_alloc_lt _ _ t (by simp; omega), World.cell?_alloc_lt _ _ t htl]; exact ht0)
    (by rw [World.frozen?_alloc_old _ _ t (by simp; omega), World.frozen?_alloc_old _ _ t (by simp; omega), World.frozen?_alloc_old _ _ t (by simp; omega), World.frozen?_alloc_old _ _ t (Nat.ne_of_lt htl)]; exact hf0)
  go_enter Tryz.func123, Tryz.ntmps123
  go_wp2
  refine wp_loop_rounds 2 ?_
  rw [rounds_succ]
  go_wp2
  rw [rounds_succ]
  go_wp2
  go_ret
  exact ⟨rfl, rfl⟩

end Go.Proofs.YtdgpiobmncohjaaGreatDoor.Aw
namespace Go.Proofs.YtdgpiobmncohjaaGreatDoor.Aw
open Go.RowKit

structure Mis where
  at_ : Int
  kd : Int
  kp : Int
  jk : List UInt8
def rowM (m : Mis) : List PV := [.int .i64 m.at_, .int .i64 m.kd, .int .i64 m.kp, .str m.jk]
def zeroM : Mis := ⟨0, 0, 0, []⟩
/-- A block: its pages, how often it was erased, whether it is bad. -/
structure Bk where
  pg : List (List UInt8)
  wn : Int
  bad : Bool
def zeroK : Bk := ⟨[], 0, false⟩
/-- A block, and where its pages are kept. -/
structure Ent where
  pv : PV
  k : Nat
  b : Bk
def cellsE (e : Ent) : List PV := [e.pv, .int .i64 e.b.wn, .bool e.b.bad]
abbrev rowsS (l : List (List UInt8)) : List (List PV) := l.map fun s => [PV.str s]
abbrev lS (l : List (List UInt8)) : AObj := .list 1 (rowsS l)
abbrev lM (l : List Mis) : AObj := .list 4 (l.map rowM)
def PgAt (ob : List AObj) (e : Ent) : Prop := (e.b.pg = [] ∧ e.pv = .nils) ∨ (e.pv = .osl e.k 0 e.b.pg.length ∧ ob[e.k]? = some (lS e.b.pg))
def PlAt (ob : List AObj) (pl : PV) (pk : Nat) (P : List Mis) : Prop := (P = [] ∧ pl = .nils) ∨ (pl = .osl pk 0 P.length ∧ ob[pk]? = some (lM P))
structure NandAt (ob : List AObj) (N B : Nat) (E : List Ent) (ops : Int) (pl : PV) (pk : Nat) (P : List Mis) (down : Bool) : Prop where
  hN : ob[N]? = some (.box [.int .i64 16, .int .i64 8, .bsl B 0 16, .int .i64 ops, pl, .bool down])
  hB : ob[B]? = some (.box (E.flatMap cellsE))
  len : E.length = 16
  pgs : ∀ e ∈ E, PgAt ob e
  plan : PlAt ob pl pk P
  inj : ∀ (i j : Nat) (a b : Ent), E[i]? = some a → E[j]? = some b → a.pv ≠ .nils → b.pv ≠ .nils → a.k = b.k → i = j
  ops0 : 0 ≤ ops
  ops1 : ops ≤ 1000000
  pl1 : P.length ≤ 1000000
theorem lt_ofN {ob : List AObj} {i : Nat} {a : AObj} (h : ob[i]? = some a) : i < ob.length := (List.getElem?_eq_some_iff.1 h).1
theorem apN {ob : List AObj} {i : Nat} {a : AObj} (h : ob[i]? = some a) (l : List AObj) : (ob ++ l)[i]? = some a := by rw [List.getElem?_append_left (lt_ofN h)]; exact h
theorem NandAt.app {ob : List AObj} {N B E ops pl pk P down} (h : NandAt ob N B E ops pl pk P down) (l : List AObj) : NandAt (ob ++ l) N B E ops pl pk P down where
  hN := apN h.hN l
  hB := apN h.hB l
  len := h.len
  pgs e he := by
    rcases h.pgs e he with h1 | ⟨h1, h2⟩
    · exact .inl h1
    · exact .inr ⟨h1, apN h2 l⟩
  plan := by
    rcases h.plan with h1 | ⟨h1, h2⟩
    · exact .inl h1
    · exact .inr ⟨h1, apN h2 l⟩
  inj := h.inj
  ops0 := h.ops0
  ops1 := h.ops1
  pl1 := h.pl1
/-- Lists of neither pages nor mishaps stay (a list of numbers is neither), and boxes that are not the array's. -/
def isI : List (List PV) → Bool
  | (.int _ _ :: _) :: _ => true
  | _ => false
theorem isI_S (l : List (List UInt8)) : isI (rowsS l) = false := by cases l <;> rfl
def KeepL (ob ob' : List AObj) : Prop := (∀ (i z : Nat) (rows : List (List PV)), (z ≠ 1 ∨ isI rows = true) → z ≠ 4 → ob[i]? = some (AObj.list z rows) → ob'[i]? = some (AObj.list z rows)) ∧
  ∀ (i : Nat) (c : List PV), c.length ≠ 6 → c.length ≠ 48 → ob[i]? = some (AObj.box c) → ob'[i]? = some (AObj.box c)
theorem KeepL.refl (ob : List AObj) : KeepL ob ob := ⟨fun _ _ _ _ _ h => h, fun _ _ _ _ h => h⟩
theorem KeepL.trans {a b c : List AObj} (h : KeepL a b) (k : KeepL b c) : KeepL a c := ⟨fun i z r h1 h2 h3 => k.1 i z r h1 h2 (h.1 i z r h1 h2 h3), fun i r h1 h2 h3 => k.2 i r h1 h2 (h.2 i r h1 h2 h3)⟩
theorem KeepL.app (ob l : List AObj) : KeepL ob (ob ++ l) := ⟨fun i z r _ _ h => apN h l, fun i r _ _ h => apN h l⟩
theorem KeepL.box {ob : List AObj} {i : Nat} {c c' : List PV} (h : ob[i]? = some (.box c)) (hc : c.length = 6 ∨ c.length = 48 := by exact .inl rfl) : KeepL ob (ob.set i (.box c')) := by
  refine ⟨fun j z r _ _ hj => ?_, fun j r h1 h2 hj => ?_⟩
  · rw [List.getElem?_set_ne]; · exact hj
    rintro rfl; rw [h] at hj; cases hj
  · rw [List.getElem?_set_ne]; · exact hj
    rintro rfl; rw [h] at hj; injection hj with hj; injection hj with hj; subst hj
    rcases hc with hc | hc
    · exact h1 hc
    · exact h2 hc
theorem KeepL.ls {ob : List AObj} {i : Nat} {l : List (List UInt8)} {a : AObj} (h : ob[i]? = some (lS l)) : KeepL ob (ob.set i a) := by
  refine ⟨fun j z r h1 _ hj => ?_, fun j r _ _ hj => ?_⟩
  · rw [List.getElem?_set_ne]; · exact hj
    rintro rfl; rw [h] at hj; injection hj with hj; injection hj with hj hr
    rcases h1 with h1 | h1
    · omega
    · rw [← hr, isI_S] at h1; cases h1
  · rw [List.getElem?_set_ne]; · exact hj
    rintro rfl; rw [h] at hj; cases hj
theorem KeepL.lm {ob : List AObj} {i : Nat} {l : List Mis} {a : AObj} (h : ob[i]? = some (lM l)) : KeepL ob (ob.set i a) := by
  refine ⟨fun j z r _ h2 hj => ?_, fun j r _ _ hj => ?_⟩
  · rw [List.getElem?_set_ne]; · exact hj
    rintro rfl; rw [h] at hj; injection hj with hj; injection hj with hj; omega
  · rw [List.getElem?_set_ne]; · exact hj
    rintro rfl; rw [h] at hj; cases hj

theorem nin_spec (n a b : Int) : PCall Tryz.prog 28 [.int .i64 n, .int .i64 a, .int .i64 b] (.bool (decide (a ≤ n) && decide (n ≤ b))) := by
  refine pcall_dr Tryz.func28 comp_nand_in ?_
  by_cases h0 : a ≤ n
  · have d : decide (a ≤ n) = true := by simpa using h0
    simp (config := {maxSteps := 4000000}) only [U_nand_in, d, Bool.true_and, reduceIte, reduceCtorEq, Nat.reduceEqDiff, Nat.reduceAdd, Int.reduceLT, Int.reduceLE, Int.reduceNeg, Int.reduceEq, Nat.reduceLT, Nat.reduceSub, Nat.reduceMul, Nat.reduceBEq, Nat.reduceLeDiff, Int.reduceBEq, Int.reduceBNe, Int.reduceToNat, ne_eq, implies_true, bA]
  · have d : decide (a ≤ n) = false := by simpa using h0
    simp (config := {maxSteps := 4000000}) only [U_nand_in, d, Bool.false_and, reduceIte, reduceCtorEq, Nat.reduceEqDiff, Nat.reduceAdd, Int.reduceLT, Int.reduceLE, Int.reduceNeg, Int.reduceEq, Nat.reduceLT, Nat.reduceSub, Nat.reduceMul, Nat.reduceBEq, Nat.reduceLeDiff, Int.reduceBEq, Int.reduceBNe, Int.reduceToNat, ne_eq, implies_true, bA]
theorem plain_spec : PCall Tryz.prog 6 [] (.agg [.int .i64 16, .int .i64 8]) := by
  refine pcall_dr Tryz.func6 comp_top_plain ?_
  simp (config := {maxSteps := 4000000}) only [U_top_plain, reduceIte, reduceCtorEq, Nat.reduceEqDiff, Nat.reduceAdd, Int.reduceLT, Int.reduceLE, Int.reduceNeg, Int.reduceEq, Nat.reduceLT, Nat.reduceSub, Nat.reduceMul, Nat.reduceBEq, Nat.reduceLeDiff, Int.reduceBEq, Int.reduceBNe, Int.reduceToNat, ne_eq, implies_true, bA]
/-- An error: none, or a number. -/
def errV (e : Int) : PV := if e = 0 then .nili else .ifc 36 (.int .i64 e)
/-- An error as a caller gets it. -/
def WrapAt (ob : List AObj) (e : Int) (r : PV) : Prop := (e = 0 ∧ r = .nili) ∨ (e ≠ 0 ∧ ∃ o op a, r = .ifc 144 (.ref o 0) ∧ ob[o]? = some (.box [.str op, .int .i64 a, .ifc 36 (.int .i64 e)]))
theorem wrap_i (ob : List AObj) (op : List UInt8) (a e : Int) : ICall Tryz.prog 29 [.str op, .int .i64 a, errV e] ob fun r ob' => (∃ ex, ob' = ob ++ ex) ∧ WrapAt ob' e r := by
  refine icall_dr Tryz.func29 comp_fault_Wrap ?_
  unfold errV
  by_cases h : e = 0
  · rw [if_pos h]
    simp (config := {maxSteps := 4000000}) only [U_fault_Wrap, reduceIte, reduceCtorEq, Nat.reduceEqDiff, Nat.reduceAdd, Int.reduceLT, Int.reduceLE, Int.reduceNeg, Int.reduceEq, Nat.reduceLT, Nat.reduceSub, Nat.reduceMul, Nat.reduceBEq, Nat.reduceLeDiff, Int.reduceBEq, Int.reduceBNe, Int.reduceToNat, ne_eq, implies_true, bA]
    exact ⟨_, rfl, ⟨[], by simp⟩, .inl ⟨h, rfl⟩⟩
  · rw [if_neg h]
    simp (config := {maxSteps := 4000000}) only [U_fault_Wrap, reduceIte, reduceCtorEq, Nat.reduceEqDiff, Nat.reduceAdd, Int.reduceLT, Int.reduceLE, Int.reduceNeg, Int.reduceEq, Nat.reduceLT, Nat.reduceSub, Nat.reduceMul, Nat.reduceBEq, Nat.reduceLeDiff, Int.reduceBEq, Int.reduceBNe, Int.reduceToNat, ne_eq, implies_true, bA]
    exact ⟨_, rfl, ⟨_, rfl⟩, .inr ⟨h, _, op, a, rfl, by simp⟩⟩
/-- What is kept of a text that is spoilt. -/
def spoiltS (m : Mis) (s : List UInt8) : List UInt8 := (s.take (min m.kp s.length).toNat ++ m.jk).take 128
theorem spoilt_spec (m : Mis) (s : List UInt8) (hs : s.length ≤ 128) (hj : m.jk.length ≤ 1000) : PCall Tryz.prog 113 [.agg (rowM m), .str s] (.str (spoiltS m s)) := by
  refine pcall_dr Tryz.func113 comp_nand_spoilt ?_
  obtain ⟨z, hz⟩ : ∃ z : Nat, max (min m.kp (s.length : Int)) 0 = (z : Int) := ⟨(min m.kp (s.length : Int)).toNat, by omega⟩
  have hz2 : (min m.kp (s.length : Int)).toNat = z := by omega
  have hzs : z ≤ s.length := by omega
  have s1 := sstrV_to hzs
  obtain ⟨t, ht⟩ : ∃ t, s.take z ++ m.jk = t := ⟨_, rfl⟩
  have htl : (s.take z).length + m.jk.length ≤ 9223372036854775807 := by simp; omega
  have b1 : binS .add (s.take z) m.jk = some (.str t) := by rw [binS_add htl, ht]
  obtain ⟨y, hy⟩ : ∃ y : Nat, min (t.length : Int) 128 = (y : Int) := ⟨min t.length 128, by omega⟩
  have s2 : sstrV (.str t) (some none) (some (some (y : Int))) = some (.str (t.take y)) := sstrV_to (by omega)
  have hv : spoiltS m s = t.take y := by
    rw [spoiltS, hz2, ht]
    by_cases h : t.length ≤ 128
    · rw [List.take_of_length_le h, List.take_of_length_le (by omega)]
    · rw [show y = 128 by omega]
  rw [hv]
  simp (config := {maxSteps := 4000000}) only [U_nand_spoilt, rowM, hz, hy, s1, s2, b1, reduceIte, reduceCtorEq, Nat.reduceEqDiff, Nat.reduceAdd, Int.reduceLT, Int.reduceLE, Int.reduceNeg, Int.reduceEq, Nat.reduceLT, Nat.reduceSub, Nat.reduceMul, Nat.reduceBEq, Nat.reduceLeDiff, Int.reduceBEq, Int.reduceBNe, Int.reduceToNat, ne_eq, implies_true, bA]
theorem page_r {ob : List AObj} {N B E ops pl pk P down} (h : NandAt ob N B E ops pl pk P down) (i : Int) : RCall Tryz.prog 111 [.ref N 0, .int .i64 i] ob (.bool (decide (0 ≤ i) && decide (i < 128))) := by
  refine RCall.of (K := fun r ob' => r = .bool (decide (0 ≤ i) && decide (i < 128)) ∧ ob' = ob) ?_ (fun r ob' h => ⟨h.1, [], by rw [h.2]; simp⟩) rfl
  refine icall_dr Tryz.func111 comp_nand_Nand_page ?_
  have hN := h.hN
  have w : IntKind.i64.wrap ((16 : Int) * 8) = 128 := by decide
  by_cases h0 : 0 ≤ i
  · have d : decide (0 ≤ i) = true := by simpa using h0
    simp (config := {maxSteps := 4000000}) only [U_nand_Nand_page, d, hN, w, Bool.true_and, reduceIte, reduceCtorEq, Nat.reduceEqDiff, Nat.reduceAdd, Int.reduceLT, Int.reduceLE, Int.reduceNeg, Int.reduceEq, Nat.reduceLT, Nat.reduceSub, Nat.reduceMul, Nat.reduceBEq, Nat.reduceLeDiff, Int.reduceBEq, Int.reduceBNe, Int.reduceToNat, ne_eq, implies_true, bA]
    exact ⟨_, rfl, rfl⟩
  · have d : decide (0 ≤ i) = false := by simpa using h0
    simp (config := {maxSteps := 4000000}) only [U_nand_Nand_page, d, hN, w, Bool.false_and, reduceIte, reduceCtorEq, Nat.reduceEqDiff, Nat.reduceAdd, Int.reduceLT, Int.reduceLE, Int.reduceNeg, Int.reduceEq, Nat.reduceLT, Nat.reduceSub, Nat.reduceMul, Nat.reduceBEq, Nat.reduceLeDiff, Int.reduceBEq, Int.reduceBNe, Int.reduceToNat, ne_eq, implies_true, bA]
    exact ⟨_, rfl, rfl⟩

end Go.Proofs.YtdgpiobmncohjaaGreatDoor.Aw
namespace Go.Proofs.YtdgpiobmncohjaaGreatDoor.Aw
open Go.RowKit

theorem as_i {ob : List AObj} {o t : Nat} {op : List UInt8} {a e x : Int} (ho : ob[o]? = some (.box [.str op, .int .i64 a, .ifc 36 (.int .i64 e)])) (ht : ob[t]? = some (.box [.int .i64 x])) :
    ICall Tryz.prog 123 [.ifc 144 (.ref o 0), .ifc 213 (.ref t 0)] ob fun r ob' => r = .bool true ∧ ob' = ob.set t (.box [.int .i64 e]) := by
  refine ⟨⟨⟨Tryz.f123, Tryz.func123, by kernel_rfl, by kernel_rfl⟩, _, _, rfl, rfl⟩, ?_⟩
  intro c w F l vs R hv
  obtain ⟨v1, vs1, rfl, h1, hv⟩ := hv.cons_inv
  obtain ⟨v2, vs2, rfl, h2, hv⟩ := hv.cons_inv
  have := hv.nil_inv; subst this
  cases h1 with
  | ifc h1 =>
  cases h2 with
  | ifc h2 =>
  obtain ⟨L1, lo1, bx1, rfl⟩ := h1.ref_inv
  have h2' := h2
  obtain ⟨L2, lo2, bx2, rfl⟩ := h2.ref_inv
  rcases R.objs o _ ho with g1 | ⟨L', g1, g2⟩
  · simp at g1
  rw [lo1] at g1; cases g1
  obtain ⟨_, n1, cv1, e1, p1, p2, p3⟩ := g2
  rcases R.objs t _ ht with k1 | ⟨L', k1, k2⟩
  · simp at k1
  rw [lo2] at k1; cases k1
  obtain ⟨_, n2, cv2, e2, q1, q2, q3⟩ := k2
  obtain ⟨y, hy1, hy2⟩ := p2.get (i := 2) (p := .ifc 36 (.int .i64 e)) rfl
  have hy : y = .iface 36 (.int .i64 e) := by
    cases hy2 with
    | ifc hh => rw [hh.int_inv]
  have c1 : w.cell? ⟨L1.blk, 2, none⟩ = some (.iface 36 (.int .i64 e)) := by rw [cell_of_block p1, List.getElem?_toArray, hy1, hy]
  obtain ⟨z, hz1, hz2⟩ := q2.get (i := 0) (p := .int .i64 x) rfl
  have c2 : w.cell? ⟨L2.blk, 0, none⟩ = some z := by rw [cell_of_block q1, List.getElem?_toArray, hz1]
  have hsz : 0 < cv2.toArray.size := by have := q2.1; simp at this ⊢; omega
  have c3 : w.frozen? ⟨L2.blk, 0, none⟩ = false := frozen_of_block q1 (free00 _) hsz
  refine (as_hit L1.blk ⟨L2.blk, 0, none⟩ e z w R.globOk c1 c2 c3).mono ?_
  rintro ev w' ⟨rfl, rfl⟩
  obtain ⟨W4, hW4⟩ : ∃ W4, (((w.alloc (.cells #[.pointer (some ⟨L2.blk, 0, none⟩)] 213)).alloc (.cells #[.pointer (some ⟨1, 213, none⟩), .pointer (some ⟨w.heap.size, 0, none⟩), .int .u64 150] 246)).alloc (.cells #[.pointer (some ⟨1, 213, none⟩), .pointer (some ⟨w.heap.size, 0, none⟩), .int .u64 150] 246)).alloc (.cells #[.int .i64 e] 36) = W4 := ⟨_, rfl⟩
  rw [hW4]
  have hB : Below w.heap.size w W4 := by
    rw [← hW4]
    have b1 := below_alloc (w := w) (o := .cells #[.pointer (some ⟨L2.blk, 0, none⟩)] 213)
    have b2 := below_alloc (w := w.alloc (.cells #[.pointer (some ⟨L2.blk, 0, none⟩)] 213)) (o := .cells #[.pointer (some ⟨1, 213, none⟩), .pointer (some ⟨w.heap.size, 0, none⟩), .int .u64 150] 246)
    have b3 := below_alloc (w := (w.alloc (.cells #[.pointer (some ⟨L2.blk, 0, none⟩)] 213)).alloc (.cells #[.pointer (some ⟨1, 213, none⟩), .pointer (some ⟨w.heap.size, 0, none⟩), .int .u64 150] 246)) (o := .cells #[.pointer (some ⟨1, 213, none⟩), .pointer (some ⟨w.heap.size, 0, none⟩), .int .u64 150] 246)
    have b4 := below_alloc (w := ((w.alloc (.cells #[.pointer (some ⟨L2.blk, 0, none⟩)] 213)).alloc (.cells #[.pointer (some ⟨1, 213, none⟩), .pointer (some ⟨w.heap.size, 0, none⟩), .int .u64 150] 246)).alloc (.cells #[.pointer (some ⟨1, 213, none⟩), .pointer (some ⟨w.heap.size, 0, none⟩), .int .u64 150] 246)) (o := .cells #[.int .i64 e] 36)
    exact ((b1.trans (b2.mono b1.size)).trans (b3.mono (b1.trans (b2.mono b1.size)).size)).trans (b4.mono ((b1.trans (b2.mono b1.size)).trans (b3.mono (b1.trans (b2.mono b1.size)).size)).size)
  obtain ⟨R4, m4⟩ := R.ext hB
  have hst : stC ob [] (.ref t 0) [.int .i64 e] = some (ob.set t (.box [.int .i64 e])) := by simp [stC, ht, setAt]
  have h24 : R1 W4 F l (.ref t 0) (.pointer (some ⟨L2.blk, 0, none⟩)) := .ref lo2 bx2
  obtain ⟨b, off, w', l', hp, hrun, R5, m5⟩ := stC_sound (P := Tryz.prog) R4 h24 hst (.one (.int .i64 e)) (by intro v hv; simp at hv; subst hv; rfl)
  simp only [Value.pointer.injEq, Option.some.injEq, Addr.mk.injEq, and_true] at hp
  obtain ⟨rfl, rfl⟩ := hp
  have c4 : W4.cell? ⟨L2.blk, 0, none⟩ = some z := by
    have := hB.block L2.blk (lt_of_cells q1)
    rw [cell_of_block (this.trans q1), List.getElem?_toArray, hz1]
  have c5 : W4.frozen? ⟨L2.blk, 0, none⟩ = false := frozen_of_block ((hB.block L2.blk (lt_of_cells q1)).trans q1) (free00 _) hsz
  have hw : w' = W4.setCell ⟨L2.blk, 0, none⟩ (.int .i64 e) := by
    simp only [storeCells, Sem.run_bind] at hrun
    rw [run_store Tryz.prog W4 _ _ _ (by rfl)] at hrun
    have e0 : (⟨L2.blk, 0, none⟩ : Addr).add 0 = ⟨L2.blk, 0, none⟩ := rfl
    rw [e0, c4] at hrun
    simp only [c5, Bool.false_eq_true, if_false, Result.andThen, Sem.run_pure, Result.ok.injEq, true_and] at hrun
    exact hrun.symm
  subst hw
  exact ⟨_, .bool true, _, F, l', rfl, R5, m4.trans m5, .bool true, rfl, rfl⟩

theorem code_nil (ob : List AObj) : RCall Tryz.prog 85 [.nili] ob (.int .i64 0) := by
  refine RCall.of (K := fun r ob' => r = .int .i64 0 ∧ ob' = ob) ?_ (fun r ob' h => ⟨h.1, [], by rw [h.2]; simp⟩) rfl
  refine icall_dr Tryz.func85 comp_fault_Code ?_
  simp (config := {maxSteps := 4000000}) only [U_fault_Code, reduceIte, reduceCtorEq, Nat.reduceEqDiff, Nat.reduceAdd, Int.reduceLT, Int.reduceLE, Int.reduceNeg, Int.reduceEq, Nat.reduceLT, Nat.reduceSub, Nat.reduceMul, Nat.reduceBEq, Nat.reduceLeDiff, Int.reduceBEq, Int.reduceBNe, Int.reduceToNat, ne_eq, implies_true, bA]
  exact ⟨_, rfl, rfl⟩
theorem code_r {ob : List AObj} {e : Int} {r : PV} (h : WrapAt ob e r) : RCall Tryz.prog 85 [r] ob (.int .i64 e) := by
  rcases h with ⟨rfl, rfl⟩ | ⟨h0, o, op, a, rfl, ho⟩
  · exact code_nil ob
  refine RCall.of (K := fun r ob' => r = .int .i64 e ∧ ∃ ex, ob' = ob ++ ex) ?_ (fun r ob' h => h) rfl
  refine icall_dr Tryz.func85 comp_fault_Code ?_
  have ho2 : ∀ b, (ob ++ [b])[o]? = some (.box [.str op, .int .i64 a, .ifc 36 (.int .i64 e)]) := fun b => apN ho [b]
  have g1 : ∀ b, (ob ++ [b])[ob.length]? = some b := fun b => by simp
  have s1 : ∀ b c, (ob ++ [b]).set ob.length c = ob ++ [c] := fun b c => by simp
  simp (config := {maxSteps := 4000000}) only [U_fault_Code, g1, s1, reduceIte, reduceCtorEq, Nat.reduceEqDiff, Nat.reduceAdd, Int.reduceLT, Int.reduceLE, Int.reduceNeg, Int.reduceEq, Nat.reduceLT, Nat.reduceSub, Nat.reduceMul, Nat.reduceBEq, Nat.reduceLeDiff, Int.reduceBEq, Int.reduceBNe, Int.reduceToNat, ne_eq, implies_true, bA]
  refine callM (as_i (ho2 _) (g1 _)) ?_
  rintro r ob' ⟨rfl, rfl⟩
  rw [s1]
  simp (config := {maxSteps := 4000000}) only [U_fault_Code, g1, s1, reduceIte, reduceCtorEq, Nat.reduceEqDiff, Nat.reduceAdd, Int.reduceLT, Int.reduceLE, Int.reduceNeg, Int.reduceEq, Nat.reduceLT, Nat.reduceSub, Nat.reduceMul, Nat.reduceBEq, Nat.reduceLeDiff, Int.reduceBEq, Int.reduceBNe, Int.reduceToNat, ne_eq, implies_true, bA]
  exact ⟨_, rfl, rfl, _, rfl⟩

end Go.Proofs.YtdgpiobmncohjaaGreatDoor.Aw
namespace Go.Proofs.YtdgpiobmncohjaaGreatDoor.Aw
open Go.RowKit

variable {ob : List AObj} {N B : Nat} {E : List Ent} {ops : Int} {pl : PV} {pk : Nat} {P : List Mis} {down : Bool}

theorem ready_i (h : NandAt ob N B E ops pl pk P false) {g : Nat} {cap : List PV} (hm : ICall Tryz.prog g cap ob fun r ob' => r = .bool true ∧ ob' = ob) :
    ICall Tryz.prog 109 [.ref N 0, .fn (.func g) [] cap] ob fun r ob' => r = .nili ∧ ob' = ob := by
  refine icall_dr Tryz.func109 comp_nand_Nand_ready ?_
  have hN := h.hN
  simp (config := {maxSteps := 4000000}) only [U_nand_Nand_ready, hN, reduceIte, reduceCtorEq, Nat.reduceEqDiff, Nat.reduceAdd, Int.reduceLT, Int.reduceLE, Int.reduceNeg, Int.reduceEq, Nat.reduceLT, Nat.reduceSub, Nat.reduceMul, Nat.reduceBEq, Nat.reduceLeDiff, Int.reduceBEq, Int.reduceBNe, Int.reduceToNat, ne_eq, implies_true, bA]
  refine callM hm ?_
  rintro r ob' ⟨rfl, rfl⟩
  simp (config := {maxSteps := 4000000}) only [U_nand_Nand_ready, hN, reduceIte, reduceCtorEq, Nat.reduceEqDiff, Nat.reduceAdd, Int.reduceLT, Int.reduceLE, Int.reduceNeg, Int.reduceEq, Nat.reduceLT, Nat.reduceSub, Nat.reduceMul, Nat.reduceBEq, Nat.reduceLeDiff, Int.reduceBEq, Int.reduceBNe, Int.reduceToNat, ne_eq, implies_true, bA]
  exact ⟨_, rfl, rfl⟩
theorem progc_i (h : NandAt ob N B E ops pl pk P down) {c1 c2 c3 : Nat} {pg : Nat} {s : List UInt8} (h1 : ob[c1]? = some (.box [.ref N 0])) (h2 : ob[c2]? = some (.box [.int .i64 (pg : Int)])) (h3 : ob[c3]? = some (.box [.str s])) (hp : pg < 128) (hs : s.length ≤ 128) :
    ICall Tryz.prog 110 [.ref c1 0, .ref c2 0, .ref c3 0] ob fun r ob' => r = .bool true ∧ ob' = ob := by
  refine icall_dr Tryz.func110 comp_nand_Nand_program_c1 ?_
  have hr := page_r h (pg : Int)
  have e : (decide ((0 : Int) ≤ (pg : Int)) && decide ((pg : Int) < 128)) = true := by simp; omega
  rw [e] at hr
  have d : decide ((s.length : Int) ≤ 128) = true := by simp; omega
  simp (config := {maxSteps := 4000000}) only [U_nand_Nand_program_c1, h1, h2, reduceIte, reduceCtorEq, Nat.reduceEqDiff, Nat.reduceAdd, Int.reduceLT, Int.reduceLE, Int.reduceNeg, Int.reduceEq, Nat.reduceLT, Nat.reduceSub, Nat.reduceMul, Nat.reduceBEq, Nat.reduceLeDiff, Int.reduceBEq, Int.reduceBNe, Int.reduceToNat, ne_eq, implies_true, bA]
  refine callR hr ?_
  simp (config := {maxSteps := 4000000}) only [U_nand_Nand_program_c1, h3, d, reduceIte, reduceCtorEq, Nat.reduceEqDiff, Nat.reduceAdd, Int.reduceLT, Int.reduceLE, Int.reduceNeg, Int.reduceEq, Nat.reduceLT, Nat.reduceSub, Nat.reduceMul, Nat.reduceBEq, Nat.reduceLeDiff, Int.reduceBEq, Int.reduceBNe, Int.reduceToNat, ne_eq, implies_true, bA]
  exact ⟨_, rfl, rfl⟩
theorem readc_i (h : NandAt ob N B E ops pl pk P down) {c1 c2 : Nat} {pg : Nat} (h1 : ob[c1]? = some (.box [.ref N 0])) (h2 : ob[c2]? = some (.box [.int .i64 (pg : Int)])) (hp : pg < 128) :
    ICall Tryz.prog 114 [.ref c1 0, .ref c2 0] ob fun r ob' => r = .bool true ∧ ob' = ob := by
  refine icall_dr Tryz.func114 comp_nand_Nand_read_c1 ?_
  have hr := page_r h (pg : Int)
  have e : (decide ((0 : Int) ≤ (pg : Int)) && decide ((pg : Int) < 128)) = true := by simp; omega
  rw [e] at hr
  simp (config := {maxSteps := 4000000}) only [U_nand_Nand_read_c1, h1, h2, reduceIte, reduceCtorEq, Nat.reduceEqDiff, Nat.reduceAdd, Int.reduceLT, Int.reduceLE, Int.reduceNeg, Int.reduceEq, Nat.reduceLT, Nat.reduceSub, Nat.reduceMul, Nat.reduceBEq, Nat.reduceLeDiff, Int.reduceBEq, Int.reduceBNe, Int.reduceToNat, ne_eq, implies_true, bA]
  refine callR hr ?_
  exact ⟨_, rfl, rfl⟩
theorem block_r (h : NandAt ob N B E ops pl pk P down) {b : Nat} (hb : b < 16) : RCall Tryz.prog 117 [.ref N 0, .int .i64 (b : Int)] ob (.bool true) := by
  refine RCall.of (K := fun r ob' => r = .bool true ∧ ob' = ob) ?_ (fun r ob' h => ⟨h.1, [], by rw [h.2]; simp⟩) rfl
  refine icall_dr Tryz.func117 comp_nand_Nand_block ?_
  have hN := h.hN
  have d1 : decide ((0 : Int) ≤ (b : Int)) = true := by simp
  have d2 : decide ((b : Int) < 16) = true := by simp; omega
  simp (config := {maxSteps := 4000000}) only [U_nand_Nand_block, hN, d1, d2, reduceIte, reduceCtorEq, Nat.reduceEqDiff, Nat.reduceAdd, Int.reduceLT, Int.reduceLE, Int.reduceNeg, Int.reduceEq, Nat.reduceLT, Nat.reduceSub, Nat.reduceMul, Nat.reduceBEq, Nat.reduceLeDiff, Int.reduceBEq, Int.reduceBNe, Int.reduceToNat, ne_eq, implies_true, bA]
  exact ⟨_, rfl, rfl⟩
/-- A box of the array's. -/
def boxN (B : Nat) (ops : Int) (pl : PV) (down : Bool) : AObj := .box [.int .i64 16, .int .i64 8, .bsl B 0 16, .int .i64 ops, pl, .bool down]
theorem countc_i {c : Nat} {m : Mis} (hc : ob[c]? = some (.box [.ref N 0])) (hN : ob[N]? = some (.box [.int .i64 16, .int .i64 8, .bsl B 0 16, .int .i64 ops, pl, .bool down])) :
    ICall Tryz.prog 147 [.agg (rowM m), .ref c 0] ob fun r ob' => r = .bool (m.at_ == ops) ∧ ∃ ex, ob' = ob ++ ex := by
  refine icall_dr Tryz.func147 comp_nand_Nand_count_c1 ?_
  have hc2 : ∀ b, (ob ++ [b])[c]? = some (.box [.ref N 0]) := fun b => apN hc [b]
  have hN2 : ∀ b, (ob ++ [b])[N]? = some (.box [.int .i64 16, .int .i64 8, .bsl B 0 16, .int .i64 ops, pl, .bool down]) := fun b => apN hN [b]
  have g1 : ∀ b, (ob ++ [b])[ob.length]? = some b := fun b => by simp
  simp (config := {maxSteps := 4000000}) only [U_nand_Nand_count_c1, rowM, hc2, hN2, g1, reduceIte, reduceCtorEq, Nat.reduceEqDiff, Nat.reduceAdd, Int.reduceLT, Int.reduceLE, Int.reduceNeg, Int.reduceEq, Nat.reduceLT, Nat.reduceSub, Nat.reduceMul, Nat.reduceBEq, Nat.reduceLeDiff, Int.reduceBEq, Int.reduceBNe, Int.reduceToNat, ne_eq, implies_true, bA]
  exact ⟨_, rfl, rfl, _, rfl⟩
/-- The place of the mishap that waits for an operation: none: -1. -/
def IdxM (P : List Mis) (k : Int) (r : PV) : Prop := (∃ i m, P[i]? = some m ∧ P.find? (fun x => x.at_ == k) = some m ∧ r = .int .i64 ((i : Nat) : Int)) ∨ (P.find? (fun x => x.at_ == k) = none ∧ r = .int .i64 (-1))
theorem lt_ofM {P : List Mis} {i : Nat} {a : Mis} (h : P[i]? = some a) : i < P.length := (List.getElem?_eq_some_iff.1 h).1
theorem find_at {P : List Mis} {k : Int} {i : Nat} {m : Mis} (h : P[i]? = some m) (hm : (m.at_ == k) = true) (hn : ∀ x ∈ P.take i, (x.at_ == k) = false) : P.find? (fun x => x.at_ == k) = some m := by
  have hi := lt_ofM h
  rw [← List.take_append_drop i P, List.find?_append, List.find?_eq_none.2 (by simpa using hn), List.drop_eq_getElem_cons hi]
  have : P[i] = m := by rw [List.getElem?_eq_getElem hi] at h; exact Option.some.inj h
  simp [this, hm]
theorem idx_i {c : Nat} (hc : ob[c]? = some (.box [.ref N 0])) (hN : ob[N]? = some (.box [.int .i64 16, .int .i64 8, .bsl B 0 16, .int .i64 ops, pl, .bool down])) (hp : PlAt ob pl pk P) (hP : P.length ≤ 1000000) :
    ICall Tryz.prog 146 [pl, .fn (.func 147) [] [.ref c 0]] ob fun r ob' => IdxM P ops r ∧ ∃ ex, ob' = ob ++ ex := by
  refine icall_dr Tryz.func146 comp_slices_IndexFunc_api_Mishap ?_
  rcases hp with ⟨rfl, hp2⟩ | ⟨hpl, hp2⟩
  · rw [hp2]
    simp (config := {maxSteps := 4000000}) only [U_slices_IndexFunc_api_Mishap, reduceIte, reduceCtorEq, Nat.reduceEqDiff, Nat.reduceAdd, Int.reduceLT, Int.reduceLE, Int.reduceNeg, Int.reduceEq, Nat.reduceLT, Nat.reduceSub, Nat.reduceMul, Nat.reduceBEq, Nat.reduceLeDiff, Int.reduceBEq, Int.reduceBNe, Int.reduceToNat, ne_eq, implies_true, bA]
    refine loopF (fun _ : Unit => ⟨ofL [(0, .nils), (1, .fn (.func 147) [] [.ref c 0]), (7, .int .i64 0), (8, .int .i64 0)], ob⟩) (fun _ => True) (fun _ => 0) () ?_ trivial ?_
    · simp (config := {maxSteps := 4000000}) only [U_slices_IndexFunc_api_Mishap, reduceIte, reduceCtorEq, Nat.reduceEqDiff, Nat.reduceAdd, Int.reduceLT, Int.reduceLE, Int.reduceNeg, Int.reduceEq, Nat.reduceLT, Nat.reduceSub, Nat.reduceMul, Nat.reduceBEq, Nat.reduceLeDiff, Int.reduceBEq, Int.reduceBNe, Int.reduceToNat, ne_eq, implies_true, bA]
      all_goals rfl
    · rintro ⟨⟩ -
      simp (config := {maxSteps := 4000000}) only [U_slices_IndexFunc_api_Mishap, reduceIte, reduceCtorEq, Nat.reduceEqDiff, Nat.reduceAdd, Int.reduceLT, Int.reduceLE, Int.reduceNeg, Int.reduceEq, Nat.reduceLT, Nat.reduceSub, Nat.reduceMul, Nat.reduceBEq, Nat.reduceLeDiff, Int.reduceBEq, Int.reduceBNe, Int.reduceToNat, ne_eq, implies_true, bA]
      exact ⟨_, rfl, .inr ⟨rfl, rfl⟩, [], by simp⟩
  · rw [hpl]
    rw [hpl] at hN
    have hr : rowsO (some (lM P)) 0 P.length = some (P.map rowM) := rowsO_all (by simp)
    simp (config := {maxSteps := 4000000}) only [U_slices_IndexFunc_api_Mishap, hp2, hr, reduceIte, reduceCtorEq, Nat.reduceEqDiff, Nat.reduceAdd, Int.reduceLT, Int.reduceLE, Int.reduceNeg, Int.reduceEq, Nat.reduceLT, Nat.reduceSub, Nat.reduceMul, Nat.reduceBEq, Nat.reduceLeDiff, Int.reduceBEq, Int.reduceBNe, Int.reduceToNat, ne_eq, implies_true, bA]
    refine loopF (fun s : Nat × List AObj => ⟨ofL [(0, .osl pk 0 P.length), (1, .fn (.func 147) [] [.ref c 0]), (7, .int .i64 (P.length : Int)), (8, .int .i64 (s.1 : Int))], s.2⟩)
      (fun s => s.1 ≤ P.length ∧ (∃ ex, s.2 = ob ++ ex) ∧ ∀ x ∈ P.take s.1, (x.at_ == ops) = false) (fun s => P.length - s.1) (0, ob) ?_ ⟨Nat.zero_le _, ⟨[], by simp⟩, fun x hx => by simp at hx⟩ ?_
    · simp (config := {maxSteps := 4000000}) only [U_slices_IndexFunc_api_Mishap, reduceIte, reduceCtorEq, Nat.reduceEqDiff, Nat.reduceAdd, Int.reduceLT, Int.reduceLE, Int.reduceNeg, Int.reduceEq, Nat.reduceLT, Nat.reduceSub, Nat.reduceMul, Nat.reduceBEq, Nat.reduceLeDiff, Int.reduceBEq, Int.reduceBNe, Int.reduceToNat, ne_eq, implies_true, bA]
      all_goals rfl
    · rintro ⟨i, OB⟩ ⟨hi, ⟨ex, hex⟩, hn⟩
      simp only at hi hex hn ⊢
      subst hex
      by_cases hlt : i < P.length
      · have d : decide ((i : Int) < (P.length : Int)) = true := by simpa using hlt
        have w1 : IntKind.i64.wrap ((i : Int) + 1) = ((i + 1 : Nat) : Int) := by rw [wrapI (by omega) (by omega)]; omega
        have p2 := apN hp2 ex
        have i1 := islO_map (g := rowM) (l := P) (e := 4) (o := pk) (m := P.length) (k := .i64) rfl hlt
        have i2 := ldL_map (g := rowM) (l := P) (e := 4) (len := P.length) (off := 0) (n := 4) rfl hlt (by simp [rowM])
        have i3 : ((rowM P[i]).drop 0).take 4 = rowM P[i] := by simp [rowM]
        rw [i3] at i2
        simp (config := {maxSteps := 4000000}) only [U_slices_IndexFunc_api_Mishap, d, p2, i1, i2, reduceIte, reduceCtorEq, Nat.reduceEqDiff, Nat.reduceAdd, Int.reduceLT, Int.reduceLE, Int.reduceNeg, Int.reduceEq, Nat.reduceLT, Nat.reduceSub, Nat.reduceMul, Nat.reduceBEq, Nat.reduceLeDiff, Int.reduceBEq, Int.reduceBNe, Int.reduceToNat, ne_eq, implies_true, bA]
        refine callM (countc_i (m := P[i]) (apN hc ex) (apN hN ex)) ?_
        rintro r ob' ⟨rfl, ex2, rfl⟩
        cases hm : (P[i].at_ == ops) with
        | true =>
          simp (config := {maxSteps := 4000000}) only [U_slices_IndexFunc_api_Mishap, reduceIte, reduceCtorEq, Nat.reduceEqDiff, Nat.reduceAdd, Int.reduceLT, Int.reduceLE, Int.reduceNeg, Int.reduceEq, Nat.reduceLT, Nat.reduceSub, Nat.reduceMul, Nat.reduceBEq, Nat.reduceLeDiff, Int.reduceBEq, Int.reduceBNe, Int.reduceToNat, ne_eq, implies_true, bA]
          have hg := List.getElem?_eq_getElem hlt
          exact ⟨_, rfl, .inl ⟨i, P[i], hg, find_at hg hm hn, rfl⟩, ex ++ ex2, by simp⟩
        | false =>
          simp (config := {maxSteps := 4000000}) only [U_slices_IndexFunc_api_Mishap, w1, reduceIte, reduceCtorEq, Nat.reduceEqDiff, Nat.reduceAdd, Int.reduceLT, Int.reduceLE, Int.reduceNeg, Int.reduceEq, Nat.reduceLT, Nat.reduceSub, Nat.reduceMul, Nat.reduceBEq, Nat.reduceLeDiff, Int.reduceBEq, Int.reduceBNe, Int.reduceToNat, ne_eq, implies_true, bA]
          refine ⟨(i + 1, ob ++ (ex ++ ex2)), by simp, ⟨hlt, ⟨_, rfl⟩, fun x hx => ?_⟩, by simp only; omega⟩
          simp only at hx
          rw [List.take_succ_eq_append_getElem hlt, List.mem_append, List.mem_singleton] at hx
          rcases hx with hx | rfl
          · exact hn x hx
          · exact hm
      · have d : decide ((i : Int) < (P.length : Int)) = false := by simpa using hlt
        rw [List.take_of_length_le (by omega)] at hn
        simp (config := {maxSteps := 4000000}) only [U_slices_IndexFunc_api_Mishap, d, reduceIte, reduceCtorEq, Nat.reduceEqDiff, Nat.reduceAdd, Int.reduceLT, Int.reduceLE, Int.reduceNeg, Int.reduceEq, Nat.reduceLT, Nat.reduceSub, Nat.reduceMul, Nat.reduceBEq, Nat.reduceLeDiff, Int.reduceBEq, Int.reduceBNe, Int.reduceToNat, ne_eq, implies_true, bA]
        exact ⟨_, rfl, .inr ⟨List.find?_eq_none.2 (by simpa using hn), rfl⟩, ex, rfl⟩
/-- The mishap that waits for an operation. -/
def cM (P : List Mis) (k : Int) : Mis := (P.find? fun x => x.at_ == k).getD zeroM
theorem count_i (h : NandAt ob N B E ops pl pk P down) : ICall Tryz.prog 112 [.ref N 0] ob fun r ob' => r = .agg (rowM (cM P (ops + 1))) ∧ ∃ ex, ob' = ob.set N (boxN B (ops + 1) pl down) ++ ex := by
  refine icall_dr Tryz.func112 comp_nand_Nand_count ?_
  have hN := h.hN
  have h0 := h.ops0
  have h1 := h.ops1
  have hlt := lt_ofN hN
  have w1 : IntKind.i64.wrap (ops + 1) = ops + 1 := wrapI (by omega) (by omega)
  have hN2 : ∀ l, (ob ++ l)[N]? = some (.box [.int .i64 16, .int .i64 8, .bsl B 0 16, .int .i64 ops, pl, .bool down]) := fun l => apN hN l
  have g0 : ∀ l, (ob ++ l)[ob.length]? = l[0]? := fun l => by rw [List.getElem?_append_right (Nat.le_refl _)]; simp
  have g1 : ∀ l, (ob ++ l)[ob.length + 1]? = l[1]? := fun l => by rw [List.getElem?_append_right (by omega)]; simp
  have s1 : ∀ (l : List AObj) c, (ob ++ l).set N c = ob.set N c ++ l := fun l c => by rw [List.set_append_left _ _ hlt]
  have q0 : ∀ c l, (ob.set N c ++ l)[ob.length]? = l[0]? := fun c l => by rw [List.getElem?_append_right (by simp)]; simp
  have q1 : ∀ c l, (ob.set N c ++ l)[ob.length + 1]? = l[1]? := fun c l => by rw [List.getElem?_append_right (by simp)]; simp
  have q2 : ∀ c l, (ob.set N c ++ l)[N]? = some c := fun c l => by rw [List.getElem?_append_left (by simpa using hlt)]; exact set_get hN
  have s2 : ∀ c (l : List AObj) x, (ob.set N c ++ l).set (ob.length + 1) x = ob.set N c ++ l.set 1 x := fun c l x => by rw [List.set_append_right _ _ (by simp)]; simp
  have hpl2 : ∀ c l, PlAt (ob.set N c ++ l) pl pk P := fun c l => by
    rcases h.plan with g | ⟨g, g'⟩
    · exact .inl g
    · refine .inr ⟨g, apN ?_ l⟩
      rw [List.getElem?_set_ne]; · exact g'
      rintro rfl; rw [hN] at g'; cases g'
  simp (config := {maxSteps := 4000000}) only [U_nand_Nand_count, hN2, g0, g1, s1, w1, q0, q1, q2, reduceIte, reduceCtorEq, Nat.reduceEqDiff, Nat.reduceAdd, Int.reduceLT, Int.reduceLE, Int.reduceNeg, Int.reduceEq, Nat.reduceLT, Nat.reduceSub, Nat.reduceMul, Nat.reduceBEq, Nat.reduceLeDiff, Int.reduceBEq, Int.reduceBNe, Int.reduceToNat, ne_eq, implies_true, bA]
  refine callM (idx_i (q0 _ _) (q2 _ _) (hpl2 _ _) h.pl1) ?_
  rintro r ob' ⟨hI, ex, rfl⟩
  rcases hI with ⟨i, m, hi, hf, rfl⟩ | ⟨hf, rfl⟩
  · have d : decide (((i : Nat) : Int) < 0) = false := by simp
    have hm : cM P (ops + 1) = m := by rw [cM, hf]; rfl
    rw [hm]
    have hlt2 := lt_ofM hi
    have hPi : P[i] = m := by rw [List.getElem?_eq_getElem hlt2] at hi; exact Option.some.inj hi
    have hpl3 : pl = .osl pk 0 P.length := by
      rcases h.plan with ⟨g, _⟩ | ⟨g, _⟩
      · rw [g] at hlt2; simp at hlt2
      · exact g
    have p2 : ∀ c l, (ob.set N c ++ l)[pk]? = some (lM P) := fun c l => by
      rcases hpl2 c l with ⟨g, _⟩ | ⟨_, g⟩
      · rw [g] at hlt2; simp at hlt2
      · exact g
    have i1 := islO_map (g := rowM) (l := P) (e := 4) (o := pk) (m := P.length) (k := .i64) rfl hlt2
    have i2 := ldL_map (g := rowM) (l := P) (e := 4) (len := P.length) (off := 0) (n := 4) rfl hlt2 (by simp [rowM])
    have i3 : ((rowM P[i]).drop 0).take 4 = rowM P[i] := by simp [rowM]
    rw [i3, hPi] at i2
    simp only [List.append_assoc]
    subst hpl3
    simp (config := {maxSteps := 4000000}) only [U_nand_Nand_count, hN2, g0, g1, s1, w1, q0, q1, q2, s2, d, p2, i1, i2, rowM, reduceIte, reduceCtorEq, Nat.reduceEqDiff, Nat.reduceAdd, Int.reduceLT, Int.reduceLE, Int.reduceNeg, Int.reduceEq, Nat.reduceLT, Nat.reduceSub, Nat.reduceMul, Nat.reduceBEq, Nat.reduceLeDiff, Int.reduceBEq, Int.reduceBNe, Int.reduceToNat, ne_eq, implies_true, bA]
    exact ⟨_, rfl, rfl, _, rfl⟩
  · have hm : cM P (ops + 1) = zeroM := by rw [cM, hf]; rfl
    rw [hm]
    simp only [List.append_assoc]
    simp (config := {maxSteps := 4000000}) only [U_nand_Nand_count, hN2, g0, g1, s1, w1, q0, q1, q2, s2, rowM, zeroM, reduceIte, reduceCtorEq, Nat.reduceEqDiff, Nat.reduceAdd, Int.reduceLT, Int.reduceLE, Int.reduceNeg, Int.reduceEq, Nat.reduceLT, Nat.reduceSub, Nat.reduceMul, Nat.reduceBEq, Nat.reduceLeDiff, Int.reduceBEq, Int.reduceBNe, Int.reduceToNat, ne_eq, implies_true, bA]
    exact ⟨_, rfl, rfl, _, rfl⟩

end Go.Proofs.YtdgpiobmncohjaaGreatDoor.Aw
