/-
  Abstract code, what it is to walk through it, and contracts. Definitions, and the translation of a program's code.
-/
import Derived.Test.YtddofkbkjllcbaaAwSnd5
namespace Go.Proofs.Ytddofkbkjllcbaa.Aw
open Go.RowKit

/-- A list of the call's own, handed back: it is the caller's own then. -/
def OwnR (w : World) (F : Nat → Prop) (B esz : Nat) (rows : List (List PV)) (v : Value) : Prop :=
  ∃ L : Loc, ObjRep w F (fun _ => none) (.list esz rows) L ∧ L.sliceVal 0 rows.length v ∧ (L.nil = false → B ≤ L.blk ∧ L.blk < w.heap.size ∧ ¬ F L.blk)

/-- What a call hands back. -/
def RR (w : World) (F : Nat → Prop) (B : Nat) (r : PV) (v : Value) : Prop :=
  match r with
  | .own esz rows => OwnR w F B esz rows v
  | r => R1 w F (fun _ => none) r v

def OkFn (P : Program) (f : Nat) : Prop := ∃ fn, P.funcs[f]? = some fn ∧ (fn.name == "runtime.NumGoroutine") = false ∧ fn.body.isNone = false

/-- THE CONTRACT of a function that makes memory of its own and changes none: called with what reads as 'args' it returns what reads as 'r'. -/
def PCall (P : Program) (f : Nat) (args : List PV) (r : PV) : Prop :=
  OkFn P f ∧ ∀ (w : World) (F : Nat → Prop) (vs : List Value), (∀ b, F b → b < w.heap.size) → RL w F (fun _ => none) args vs →
    Calls P f vs.toArray w fun e w' => ∃ v F', e = .returned v ∧ Below w.heap.size w w' ∧ (∀ b, F b → F' b) ∧ (∀ b, F' b → F b ∨ w.heap.size ≤ b) ∧ (∀ b, F' b → b < w'.heap.size) ∧ RR w' F' w.heap.size r v

/- what is handed to a call, by content -/
mutual
def snap (ob : List AObj) (forb : List Nat) : PV → Option PV
  | .osl o i n => (rowsOf ob forb (.osl o i n)).map .slc
  | .bsl o i n => (rowsOf ob forb (.bsl o i n)).map .slc
  | .ref o off =>
    if forb.contains o then none else
    match ob[o]? with
    | some (.box cs) => if off ≤ cs.length ∧ ownL cs = false then some (.fptr (cs.drop off)) else none
    | _ => none
  | .lref .. => none
  | .own .. => none
  | .agg cs => (snapL ob forb cs).map .agg
  | .tup cs => (snapL ob forb cs).map .tup
  | .fn f a b => match snapL ob forb a, snapL ob forb b with
    | some a', some b' => some (.fn f a' b')
    | _, _ => none
  | .ifc t v => (snap ob forb v).map (.ifc t)
  | .bot => some .bot
  | .int k n => some (.int k n)
  | .bool b => some (.bool b)
  | .str x => some (.str x)
  | .nils => some .nils
  | .slc rows => some (.slc rows)
  | .fptr cs => some (.fptr cs)
  | .nilp => some .nilp
  | .nilf => some .nilf
  | .nili => some .nili
def snapL (ob : List AObj) (forb : List Nat) : List PV → Option (List PV)
  | [] => some []
  | p :: r => match snap ob forb p, snapL ob forb r with
    | some q, some s => some (q :: s)
    | _, _ => none
end

structure AOp where
  dst : Option Nat
  ao : AO
  guard : Option (Nat × Bool) := none
  nw : Option Nat := none
  forb : List Nat := []

def upd (f : Nat → PV) (i : Nat) (v : PV) : Nat → PV := fun j => if j = i then v else f j

def St.put (s : St) (d : Option Nat) (v : PV) (ob : List AObj) : St :=
  match d with
  | some d => ⟨upd s.sl d v, ob⟩
  | none => ⟨s.sl, ob⟩

def ARes (own : Bool) (nw : Option Nat) (d : Option Nat) (K : St → Prop) (r : PV) (s : St) : Prop :=
  match r with
  | .own esz rows =>
    if own then
      match mkO s nw (.list esz rows) with
      | some (i, ob) => K (s.put d (.osl i 0 rows.length) ob)
      | none => False
    else K (s.put d (.slc rows) s.ob)
  | r => K (s.put d r s.ob)

def ACall (P : Program) (own : Bool) (forb : List Nat) (nw : Option Nat) (f : Nat) (ps : List PV) (d : Option Nat) (K : St → Prop) (s : St) : Prop :=
  if ownL ps = false then ∃ r, PCall P f ps r ∧ ARes own nw d K r s
  else
    match snapL s.ob forb ps with
    | some qs => ∃ r, PCall P f qs r ∧ r.flat = true ∧ ARes own nw d K r s
    | none => False

def AExec (P : Program) (bs : Nat) (o : AOp) (K : St → Prop) (s : St) : Prop :=
  match o.ao with
  | .call own f args => ACall P own (o.forb.map (bs + ·)) (o.nw.map (bs + ·)) f (args.map s.val) o.dst K s
  | .callv x args =>
    match s.val x with
    | .fn (.func f) first cap => ACall P false (o.forb.map (bs + ·)) (o.nw.map (bs + ·)) f (first ++ (args.map s.val ++ cap)) o.dst K s
    | _ => False
  | ao =>
    match ev (o.forb.map (bs + ·)) (o.nw.map (bs + ·)) s ao with
    | some (v, ob) => K (s.put o.dst v ob)
    | none => False

def AStep (P : Program) (bs : Nat) (o : AOp) (K : St → Prop) (s : St) : Prop :=
  match o.guard with
  | none => AExec P bs o K s
  | some (g, want) =>
    match s.sl g with
    | .bool b => if b = want then AExec P bs o K s else K (s.put o.dst .bot s.ob)
    | _ => False

def AOps (P : Program) (bs : Nat) : List AOp → (St → Prop) → St → Prop
  | [], K, s => K s
  | o :: os, K, s => AStep P bs o (AOps P bs os K) s

inductive AC where
  | skip
  | reg (ops : List AOp)
  | dreg (m : Nat) (ops : List AOp)
  | seq (a b : AC)
  | cond (c : AX) (a b : AC)
  | block (id : Nat) (b : AC)
  | loop (keep : List Nat) (n : Nat) (b : AC)
  | exit (id : Nat)
  | ret

inductive Ex where
  | n
  | x (id : Nat)
  | r

mutual
def PV.und (n : Nat) : PV → Bool
  | .agg cs => undL n cs
  | .tup cs => undL n cs
  | .fn _ a b => undL n a && undL n b
  | .ifc _ v => v.und n
  | .osl o _ _ => decide (o < n)
  | .ref o _ => decide (o < n)
  | .lref .. => false
  | .bsl o _ _ => decide (o < n)
  | _ => true
def undL (n : Nat) : List PV → Bool
  | [] => true
  | p :: r => p.und n && undL n r
end

def cutV (n : Nat) (p : PV) : PV := if p.und n then p else .bot

def cutO (n : Nat) : AObj → AObj
  | .box cells => .box (cells.map (cutV n))
  | o => o

def ofL : List (Nat × PV) → Nat → PV
  | [], _ => .bot
  | (t, v) :: r, i => if i = t then v else ofL r i

def St.keep (s : St) (L : List Nat) (n : Nat) : St := ⟨ofL (L.map fun t => (t, cutV n (s.sl t))), (s.ob.take n).map (cutO n)⟩

def kseq (k : St → Prop) (Q : Ex → St → Prop) : Ex → St → Prop
  | .n, s => k s
  | e, s => Q e s

def kblk (id : Nat) (Q : Ex → St → Prop) : Ex → St → Prop
  | .x j, s => if j = id then Q .n s else Q (.x j) s
  | e, s => Q e s

def kloop (L : List Nat) (n : Nat) (I : St → Prop) (μ : St → Nat) (m : Nat) (Q : Ex → St → Prop) : Ex → St → Prop
  | .n, s => I (s.keep L n) ∧ μ (s.keep L n) < m
  | e, s => Q e s

/-- THE WALK through abstract code. -/
def AWP (P : Program) : AC → (Ex → St → Prop) → St → Prop
  | .skip, Q, s => Q .n s
  | .reg ops, Q, s => AOps P s.ob.length ops (Q .n) s
  | .dreg m ops, Q, s => AOps P s.ob.length ops (Q .n) ⟨s.sl, s.ob ++ List.replicate m .none⟩
  | .seq a b, Q, s => AWP P a (kseq (AWP P b Q) Q) s
  | .cond c a b, Q, s =>
    match s.val c with
    | .bool t => (t = true → AWP P a Q s) ∧ (t = false → AWP P b Q s)
    | _ => False
  | .block id b, Q, s => AWP P b (kblk id Q) s
  | .loop L n b, Q, s => ∃ (I : St → Prop) (μ : St → Nat), I (s.keep L n) ∧ ∀ s, I s → AWP P b (kloop L n I μ (μ s) Q) s
  | .exit id, Q, s => Q (.x id) s
  | .ret, Q, s => Q .r s

/- the results -/
inductive ARV where
  | t (i : Nat)
  | c (a : Nat) (n : Option Nat)

def ARV.val (s : St) : ARV → Option PV
  | .t i => some (s.sl i)
  | .c a none => match ldC s.ob [] (s.sl a) 1 with
    | some [v] => some v
    | _ => none
  | .c a (some n) => (ldC s.ob [] (s.sl a) n).map .agg

def retV (s : St) (r : PV) : Option PV :=
  match r with
  | .osl o i n =>
    match s.ob[o]? with
    | some (.list esz rows) => if i + n = rows.length then some (.own esz (rows.drop i)) else none
    | _ => none
  | r => snap s.ob [] r

def retOf (s : St) (rs : List ARV) : Option PV :=
  match rs with
  | [x] => (x.val s).bind (retV s)
  | rs => (rs.mapM (ARV.val s)).bind fun vs => (snapL s.ob [] vs).map .tup

def AFin (rs : List ARV) (r : PV) : Ex → St → Prop
  | .x _, _ => False
  | _, s => retOf s rs = some r

def init (args : List PV) : St := ⟨ofL ((List.range args.length).zip args), []⟩

/- FROM A PROGRAM's CODE -/

def binAll (P : Program) (op : BinOp) (t : TypeId) (x y : Operand) : Option AO :=
  match op, P.underlying t with
  | .eql, some (.struct _) => cEqs P false t x y
  | .neq, some (.struct _) => cEqs P true t x y
  | op, _ => cBin P op t x y

def okFn (P : Program) (f : Nat) : Bool :=
  match P.funcs[f]? with
  | some fn => !(fn.name == "runtime.NumGoroutine") && !fn.body.isNone
  | none => false

def cCall (P : Program) (c : Call) : Option AO :=
  match c.callee with
  | .builtin .len => match c.args.toList, c.argTypes.toList with
    | [x], [t] => cLen P t x
    | _, _ => none
  | .builtin .append => match c.args.toList, c.argTypes.toList with
    | [x, y], [t, t'] => cApp P t t' x y
    | _, _ => none
  | .builtin .max => some (.mm true (c.args.toList.map opx))
  | .builtin .min => some (.mm false (c.args.toList.map opx))
  | _ => none

def isNilSlice : Operand → Bool
  | .const (.slice none 0 0) => true
  | _ => false

def ownDst (own : List Nat) (o : Oper) : Bool :=
  match o.dst with
  | some d => own.contains d
  | none => false

def compOp (P : Program) (own : List Nat) (o : Oper) : Option AO :=
  match o.op with
  | .move x => some (.mv (opx x))
  | .assign x =>
    if ownDst own o && isNilSlice x then
      match P.underlying o.type with
      | some (.slice e) => (P.info? e).map fun i => .nilown i.size
      | _ => none
    else some (.mv (opx x))
  | .pick c a b => some (.pick (opx c) (opx a) (opx b))
  | .alloc e => cAlloc P e
  | .box _ x => some (.box (opx x))
  | .build t ps => cBuild P t ps
  | .buildSlice t n ps => cBlds P (ownDst own o) t n ps
  | .load t x => cLoad P t x
  | .store t x y => cStore P t x y
  | .nilCheck x => some (.nilck (opx x))
  | .binOp op t x y _ => binAll P op t x y
  | .unOp op _ x => some (.un op (opx x))
  | .convert src dst x => cConv P (ownDst own o) src dst x
  | .makeFunc f first cap => some (.mkfn f (first.toList.map opx) (cap.toList.map opx))
  | .slice t x lo hi none => cSlice P t x lo hi
  | .fieldAddr t x f => cFaddr P t x f
  | .field t x f => cFld P t x f
  | .indexAddr t x i => cIaddr P t x i
  | .index t x i => cIdx P t x i
  | .extract x i => some (.ext i (opx x))
  | .makeSlice t x y => cMks P (ownDst own o) t x y
  | .call c => cCall P c
  | _ => none

def AO.isCall : AO → Bool
  | .call .. | .callv .. => true
  | _ => false

/-- Every operation. -/
def compAny (P : Program) (own : List Nat) (o : Oper) : Option AO :=
  match o.op with
  | .call { callee := .value (.func f), args, .. } => if okFn P f then some (.call (ownDst own o) f (args.toList.map opx)) else none
  | .call { callee := .value (.tmp t), args, .. } => some (.callv (.t t) (args.toList.map opx))
  | _ =>
    match compOp P own o with
    | some ao => if ao.isCall then none else some ao
    | none => none

end Go.Proofs.Ytddofkbkjllcbaa.Aw
