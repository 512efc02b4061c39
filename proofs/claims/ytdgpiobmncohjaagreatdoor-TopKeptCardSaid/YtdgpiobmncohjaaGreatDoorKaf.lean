/-
 Abstract code, what it is to walk through it, and contracts. Definitions, and the translation of a program's code.; That the walk through abstract code tells the truth of the program's code: one operation, and regions in the text's order.
-/
import Derived.Test.YtdgpiobmncohjaaGreatDoorKae
set_option linter.all false
namespace Go.Proofs.YtdgpiobmncohjaaGreatDoor.Aw
open Go.RowKit
def OwnR (w : World) (F : Nat → Prop) (B esz : Nat) (rows : List (List PV)) (v : Value) : Prop :=
 ∃ L : Loc, ObjRep w F (fun _ => none) (.list esz rows) L ∧ L.sliceVal 0 rows.length v ∧ (L.nil = false → B ≤ L.blk ∧ L.blk < w.heap.size ∧ ¬ F L.blk)
def RR (w : World) (F : Nat → Prop) (B : Nat) (r : PV) (v : Value) : Prop :=
 match r with
 | .own esz rows => OwnR w F B esz rows v
 | r => R1 w F (fun _ => none) r v
def OkFn (P : Program) (f : Nat) : Prop := ∃ fn, P.funcs[f]? = some fn ∧ (fn.name == "runtime.NumGoroutine") = false ∧ fn.body.isNone = false
def PCall (P : Program) (f : Nat) (args : List PV) (r : PV) : Prop :=
 OkFn P f ∧ ∀ (w : World) (F : Nat → Prop) (vs : List Value), GlobOk w → (∀ b, F b → b < w.heap.size) → RL w F (fun _ => none) args vs →
  Calls P f vs.toArray w fun e w' => ∃ v F', e = .returned v ∧ Below w.heap.size w w' ∧ (∀ b, F b → F' b) ∧ (∀ b, F' b → F b ∨ w.heap.size ≤ b) ∧ (∀ b, F' b → b < w'.heap.size) ∧ RR w' F' w.heap.size r v
def ICall (P : Program) (f : Nat) (ps : List PV) (ob : List AObj) (K : PV → List AObj → Prop) : Prop :=
 (OkFn P f ∧ ∃ r ob', K r ob') ∧ ∀ (c : Ctx) (w : World) (F : Nat → Prop) (l : Locs) (vs : List Value), RepW c F l ob w → RL w F l ps vs →
  Calls P f vs.toArray w fun e w' => ∃ v r ob' F' l', e = .returned v ∧ RepW c F' l' ob' w' ∧ Mono w F l w' F' l' ∧ R1 w' F' l' r v ∧ K r ob'
def RCall (P : Program) (f : Nat) (ps : List PV) (ob : List AObj) (r : PV) : Prop :=
 OkFn P f ∧ ∀ (c : Ctx) (w : World) (F : Nat → Prop) (l : Locs) (vs : List Value), RepW c F l ob w → RL w F l ps vs →
  Calls P f vs.toArray w fun e w' => ∃ v F', e = .returned v ∧ RepW c F' l ob w' ∧ Mono w F l w' F' l ∧ R1 w' F' l r v
def ECall (P : Program) (f : Nat) (ps : List PV) (ob : List AObj) (K : PV → List AObj → Prop) : Prop :=
 (∃ r ob', K r ob') ∧ ∀ (c : Ctx) (w : World) (F : Nat → Prop) (l : Locs) (vs : List Value), RepW c F l ob w → RL w F l ps vs →
  ∃ v r ob' w' F' l', (callFunc f vs.toArray).run P w = .ok (.value v) w' ∧ RepW c F' l' ob' w' ∧ Mono w F l w' F' l' ∧ R1 w' F' l' r v ∧ K r ob'
def PV.flatR : PV → Bool
 | .own _ rows => rows.all flatL
 | r => r.flat
mutual
def snap (ob : List AObj) (forb : List Nat) : PV → Option PV
 | .osl o i n => (rowsOf ob forb (.osl o i n)).map .slc
 | .bsl o i n => (rowsOf ob forb (.bsl o i n)).map .slc
 | .ref o off =>
  if forb.contains o then none else
  match ob[o]? with
  | some (.box cs) => if off ≤ cs.length ∧ ownL cs = false then some (.fptr (cs.drop off)) else none
  | _ => none
 | .lref .. => none
 | .own .. => none
 | .mp _ => none
 | .asl .. => none
 | .nilm => some .nilm
 | .agg cs => (snapL ob forb cs).map .agg
 | .tup cs => (snapL ob forb cs).map .tup
 | .fn f a b => match snapL ob forb a, snapL ob forb b with
  | some a', some b' => some (.fn f a' b')
  | _, _ => none
 | .ifc t v => (snap ob forb v).map (.ifc t)
 | .bot => some .bot
 | .int k n => some (.int k n)
 | .bool b => some (.bool b)
 | .str x => some (.str x)
 | .nils => some .nils
 | .slc rows => some (.slc rows)
 | .fptr cs => some (.fptr cs)
 | .nilp => some .nilp
 | .nilf => some .nilf
 | .nili => some .nili
def snapL (ob : List AObj) (forb : List Nat) : List PV → Option (List PV)
 | [] => some []
 | p :: r => match snap ob forb p, snapL ob forb r with
  | some q, some s => some (q :: s)
  | _, _ => none
end
structure AOp where
 dst : Option Nat
 ao : AO
 guard : Option (Nat × Bool) := none
 nw : Option Nat := none
 forb : List Nat := []
 tgt : Option Nat := none
def upd (f : Nat → PV) (i : Nat) (v : PV) : Nat → PV := fun j => if j = i then v else f j
def St.put (s : St) (d : Option Nat) (v : PV) (ob : List AObj) : St :=
 match d with
 | some d => ⟨upd s.sl d v, ob⟩
 | none => ⟨s.sl, ob⟩
def ARes (own : Bool) (nw : Option Nat) (d : Option Nat) (K : St → Prop) (r : PV) (s : St) : Prop :=
 match r with
 | .own esz rows =>
  if own then
   match mkO s nw (.list esz rows) with
   | some (i, ob) => K (s.put d (.osl i 0 rows.length) ob)
   | none => False
  else K (s.put d (.slc rows) s.ob)
 | r => K (s.put d r s.ob)
def ACall (P : Program) (own : Bool) (forb : List Nat) (nw : Option Nat) (f : Nat) (ps : List PV) (d : Option Nat) (K : St → Prop) (s : St) : Prop :=
 if ownL ps = false then ∃ r, PCall P f ps r ∧ ARes own nw d K r s
 else
  match snapL s.ob forb ps with
  | some qs => ∃ r, PCall P f qs r ∧ r.flatR = true ∧ ARes own nw d K r s
  | none => False
def objOf : PV → Option Nat
 | .ref o _ => some o
 | .lref o _ _ _ => some o
 | .osl o _ _ => some o
 | _ => none
def rsv (bs : Nat) (s : St) (k : Nat) : Nat := if k < 1000000 then bs + k else (objOf (s.sl (k - 1000000))).getD 1000000000
def wObj (s : St) : AO → Option Nat
 | .store _ a _ => objOf (s.val a)
 | .app _ _ _ x _ => objOf (s.val x)
 | .apps _ x _ => objOf (s.val x)
 | _ => none
def tgtOk (bs : Nat) (s : St) (tgt : Option Nat) (ao : AO) : Prop :=
 match tgt with
 | none => True
 | some k => wObj s ao = some (rsv bs s k)
def MethOk (P : Program) (t : TypeId) (nm : String) (f : Nat) : Prop := ∀ (v : Value) (w : World), (Go.method (P.types.size + Made.depth) t v nm).run P w = .ok (f, v) w
def AExec (P : Program) (bs : Nat) (o : AOp) (K : St → Prop) (s : St) : Prop :=
 match o.ao with
 | .call own f args => ACall P own (o.forb.map (rsv bs s)) (o.nw.map (bs + ·)) f (args.map s.val) o.dst K s
 | .callv x args =>
  match s.val x with
  | .fn (.func f) first cap => ACall P false (o.forb.map (rsv bs s)) (o.nw.map (bs + ·)) f (first ++ (args.map s.val ++ cap)) o.dst K s
  | _ => False
 | .icall f args => ICall P f (args.map s.val) s.ob fun r ob => K (s.put o.dst r ob)
 | .icallv x args =>
  match s.val x with
  | .fn (.func f) first cap => ICall P f (first ++ (args.map s.val ++ cap)) s.ob fun r ob => K (s.put o.dst r ob)
  | _ => False
 | .icalli nm x args =>
  match s.val x with
  | .ifc t p => ∃ f, MethOk P t nm f ∧ ICall P f (p :: args.map s.val) s.ob fun r ob => K (s.put o.dst r ob)
  | _ => False
 | .mop m args => MStep m (args.map s.val) s.ob fun r ob => K (s.put o.dst r ob)
 | .rcall f args => ∃ r, RCall P f (args.map s.val) s.ob r ∧ K (s.put o.dst r s.ob)
 | .ecall f args => ECall P f (args.map s.val) s.ob fun r ob => K (s.put o.dst r ob)
 | .rcalli nm x args =>
  match s.val x with
  | .ifc t p => ∃ f, MethOk P t nm f ∧ ∃ r, RCall P f (p :: args.map s.val) s.ob r ∧ K (s.put o.dst r s.ob)
  | _ => False
 | ao =>
  tgtOk bs s o.tgt ao ∧
  match ev (o.forb.map (rsv bs s)) (o.nw.map (bs + ·)) s ao with
  | some (v, ob) => K (s.put o.dst v ob)
  | none => False
def skipV : PV := .tup []
def gdec (v : PV) (want : Bool) : Option Bool :=
 match v with
 | .bool b => some (b == want)
 | .tup [] => some false
 | _ => none
def AStep (P : Program) (bs : Nat) (o : AOp) (K : St → Prop) (s : St) : Prop :=
 match o.guard with
 | none => AExec P bs o K s
 | some (g, want) =>
  match gdec (s.sl g) want with
  | some true => AExec P bs o K s
  | some false => K (s.put o.dst skipV s.ob)
  | none => False
def AOps (P : Program) (bs : Nat) : List AOp → (St → Prop) → St → Prop
 | [], K, s => K s
 | o :: os, K, s => AStep P bs o (AOps P bs os K) s
inductive DTO where
 | leaf (l : List AOp)
 | node (l : List AOp) (a b : DTO)
def ATO (P : Program) (bs : Nat) : DTO → (St → Prop) → St → Prop
 | .leaf l, K, s => AOps P bs l K s
 | .node l a b, K, s => AOps P bs l (fun s' => ATO P bs a K s' ∧ ATO P bs b K s') s
inductive AC where
 | skip
 | reg (ops : List AOp)
 | dreg (m : Nat) (ops : List AOp)
 | dreg2 (m : Nat) (pre a b : List AOp)
 | dregs (m : Nat) (t : DTO)
 | seq (a b : AC)
 | cond (c : AX) (a b : AC)
 | block (id : Nat) (b : AC)
 | loop (keep : List Nat) (n : Nat) (b : AC)
 | exit (id : Nat)
 | ret
 | fail
inductive Ex where
 | n
 | x (id : Nat)
 | r
mutual
def PV.und (n : Nat) : PV → Bool
 | .agg cs => undL n cs
 | .tup cs => undL n cs
 | .fn _ a b => undL n a && undL n b
 | .ifc _ v => v.und n
 | .osl o _ _ => decide (o < n)
 | .ref o _ => decide (o < n)
 | .lref .. => false
 | .bsl o _ _ => decide (o < n)
 | .mp o => decide (o < n)
 | .asl o _ _ _ => decide (o < n)
 | _ => true
def undL (n : Nat) : List PV → Bool
 | [] => true
 | p :: r => p.und n && undL n r
end
def cutV (n : Nat) (p : PV) : PV := if p.und n then p else .bot
def cutO (n : Nat) : AObj → AObj
 | .box cells => .box (cells.map (cutV n))
 | .tbox t cells => .tbox t (cells.map (cutV n))
 | .map c es => .map c (es.map fun e => (e.1, e.2.1, cutV n e.2.2))
 | .iter m a b d => if m < n then .iter m a b d else .junk
 | o => o
def ofL : List (Nat × PV) → Nat → PV
 | [], _ => .bot
 | (t, v) :: r, i => if i = t then v else ofL r i
def St.keep (s : St) (L : List Nat) (n : Nat) : St := ⟨ofL (L.map fun t => (t, cutV n (s.sl t))), (s.ob.take n).map (cutO n)⟩
def St.keepA (s : St) (L : List Nat) : St := ⟨ofL (L.map fun t => (t, s.sl t)), s.ob⟩
def St.keepB (s : St) (L : List Nat) (bb n : Nat) : St := if n = 1000000000 then s.keepA L else s.keep L (bb + n)
def kseq (k : St → Prop) (Q : Ex → St → Prop) : Ex → St → Prop
 | .n, s => k s
 | e, s => Q e s
def kblk (id : Nat) (Q : Ex → St → Prop) : Ex → St → Prop
 | .x j, s => if j = id then Q .n s else Q (.x j) s
 | e, s => Q e s
def kloop (L : List Nat) (bb n : Nat) (I : St → Prop) (μ : St → Nat) (m : Nat) (Q : Ex → St → Prop) : Ex → St → Prop
 | .n, s => I (s.keepB L bb n) ∧ μ (s.keepB L bb n) < m
 | e, s => Q e s
def AWP (P : Program) (base : Nat) : AC → (Ex → St → Prop) → St → Prop
 | .skip, Q, s => Q .n s
 | .reg ops, Q, s => AOps P s.ob.length ops (Q .n) s
 | .dreg m ops, Q, s => AOps P s.ob.length ops (Q .n) ⟨s.sl, s.ob ++ List.replicate m .none⟩
 | .dreg2 m pre a b, Q, s => AOps P s.ob.length pre (fun s' => AOps P s.ob.length a (Q .n) s' ∧ AOps P s.ob.length b (Q .n) s') ⟨s.sl, s.ob ++ List.replicate m .none⟩
 | .dregs m t, Q, s => ATO P s.ob.length t (Q .n) ⟨s.sl, s.ob ++ List.replicate m .none⟩
 | .seq a b, Q, s => AWP P base a (kseq (AWP P base b Q) Q) s
 | .cond c a b, Q, s =>
  match s.val c with
  | .bool t => (t = true → AWP P base a Q s) ∧ (t = false → AWP P base b Q s)
  | _ => False
 | .block id b, Q, s => AWP P base b (kblk id Q) s
 | .loop L n b, Q, s => ∃ (I : St → Prop) (μ : St → Nat), I (s.keepB L base n) ∧ ∀ s, I s → AWP P base b (kloop L base n I μ (μ s) Q) s
 | .exit id, Q, s => Q (.x id) s
 | .ret, Q, s => Q .r s
 | .fail, _, _ => False
section
variable {P : Program} {bs : Nat} {K : St → Prop} {s : St}
theorem ARes_ex {own : Bool} {nw d : Option Nat} {r : PV} (h : ARes own nw d K r s) : ∃ v ob, K (s.put d v ob) := by
 unfold ARes at h
 split at h
 ·split at h
  ·split at h
   ·exact ⟨_, _, h⟩
   ·exact h.elim
  ·exact ⟨_, _, h⟩
 ·exact ⟨_, _, h⟩
theorem ACall_ex {own : Bool} {forb : List Nat} {nw d : Option Nat} {f : Nat} {ps : List PV} (h : ACall P own forb nw f ps d K s) : ∃ v ob, K (s.put d v ob) := by
 unfold ACall at h
 split at h
 ·obtain ⟨r, _, h⟩ := h; exact ARes_ex h
 ·split at h
  ·obtain ⟨r, _, _, h⟩ := h; exact ARes_ex h
  ·exact h.elim
theorem AExec_ex {o : AOp} (h : AExec P bs o K s) : ∃ v ob, K (s.put o.dst v ob) := by
 unfold AExec at h
 split at h
 ·exact ACall_ex h
 ·split at h
  ·exact ACall_ex h
  ·exact h.elim
 ·exact h.1.2
 ·split at h
  ·exact h.1.2
  ·exact h.elim
 ·split at h
  ·obtain ⟨_, _, h⟩ := h; exact h.1.2
  ·exact h.elim
 ·obtain ⟨r, ob, h⟩ := MStep_ex h; exact ⟨_, _, h⟩
 ·obtain ⟨r, _, h⟩ := h; exact ⟨_, _, h⟩
 ·exact h.1
 ·split at h
  ·obtain ⟨_, _, r, _, h⟩ := h; exact ⟨_, _, h⟩
  ·exact h.elim
 ·have h := h.2
  split at h
  ·exact ⟨_, _, h⟩
  ·exact h.elim
theorem AStep_ex {o : AOp} (h : AStep P bs o K s) : ∃ v ob, K (s.put o.dst v ob) := by
 unfold AStep at h
 split at h
 ·exact AExec_ex h
 ·split at h
  ·exact AExec_ex h
  ·exact ⟨_, _, h⟩
  ·exact h.elim
theorem AOps_ex : ∀ (os : List AOp) {K : St → Prop} {s : St}, AOps P bs os K s → ∃ s', K s'
 | [], _, s, h => ⟨s, h⟩
 | o :: os, _, _, h => by
  obtain ⟨v, ob, h⟩ := AStep_ex h
  exact AOps_ex os h
theorem ATO_ex : ∀ (t : DTO) {K : St → Prop} {s : St}, ATO P bs t K s → ∃ s', K s'
 | .leaf l, _, _, h => AOps_ex l h
 | .node l a b, _, _, h => by
  obtain ⟨s', h⟩ := AOps_ex l h
  exact ATO_ex a h.1
end
theorem AWP_ex {P : Program} {bb : Nat} : ∀ (ac : AC) {Q : Ex → St → Prop} {s : St}, AWP P bb ac Q s → ∃ e s', Q e s'
 | .skip, _, s, h => ⟨_, s, h⟩
 | .reg ops, _, _, h => by obtain ⟨s', h⟩ := AOps_ex ops h; exact ⟨_, s', h⟩
 | .dreg _ ops, _, _, h => by obtain ⟨s', h⟩ := AOps_ex ops h; exact ⟨_, s', h⟩
 | .dreg2 _ pre a b, _, _, h => by obtain ⟨s', h⟩ := AOps_ex pre h; obtain ⟨s', h⟩ := AOps_ex a h.1; exact ⟨_, s', h⟩
 | .dregs _ t, _, _, h => by obtain ⟨s', h⟩ := ATO_ex t h; exact ⟨_, s', h⟩
 | .seq a b, _, _, h => by
  obtain ⟨e, s', h⟩ := AWP_ex a h
  cases e with
  | n => exact AWP_ex b h
  | x i => exact ⟨_, _, h⟩
  | r => exact ⟨_, _, h⟩
 | .cond c a b, Q, s, h => by
  simp only [AWP] at h
  split at h
  ·rename_i t _
   cases t with
   | true => exact AWP_ex a (h.1 rfl)
   | false => exact AWP_ex b (h.2 rfl)
  ·exact h.elim
 | .block id b, Q, s, h => by
  obtain ⟨e, s', h⟩ := AWP_ex b h
  cases e with
  | n => exact ⟨_, _, h⟩
  | x i =>
   simp only [kblk] at h
   split at h
   ·exact ⟨_, _, h⟩
   ·exact ⟨_, _, h⟩
  | r => exact ⟨_, _, h⟩
 | .loop L n b, Q, s, h => by
  simp only [AWP] at h
  obtain ⟨I, μ, hI, hr⟩ := h
  have key : ∀ m s, I s → μ s = m → ∃ e s', Q e s' := by
   intro m
   induction m using Nat.strongRecOn with
   | _ m ih =>
    intro s hs hm
    obtain ⟨e, s', h⟩ := AWP_ex b (hr s hs)
    cases e with
    | n => exact ih _ (by rw [← hm]; exact h.2) _ h.1 rfl
    | x i => exact ⟨_, _, h⟩
    | r => exact ⟨_, _, h⟩
  exact key _ _ hI rfl
 | .exit id, _, s, h => ⟨_, s, h⟩
 | .ret, _, s, h => ⟨_, s, h⟩
 | .fail, _, _, h => h.elim
inductive ARV where
 | t (i : Nat)
 | c (a : Nat) (n : Option Nat)
def ARV.val (s : St) : ARV → Option PV
 | .t i => some (s.sl i)
 | .c a none => match ldC s.ob [] (s.sl a) 1 with
  | some [v] => some v
  | _ => none
 | .c a (some n) => (ldC s.ob [] (s.sl a) n).map .agg
def retV (s : St) (r : PV) : Option PV :=
 match r with
 | .osl o i n =>
  match s.ob[o]? with
  | some (.list esz rows) => if i + n = rows.length then some (.own esz (rows.drop i)) else none
  | _ => none
 | r => snap s.ob [] r
def rawOf (s : St) (rs : List ARV) : Option PV :=
 match rs with
 | [x] => x.val s
 | rs => (rs.mapM (ARV.val s)).map .tup
def AEnd (rs : List ARV) (K : PV → List AObj → Prop) : Ex → St → Prop
 | .x _, _ => False
 | _, s => ∃ r, rawOf s rs = some r ∧ K r s.ob
def retOf (s : St) (rs : List ARV) : Option PV :=
 match rs with
 | [x] => (x.val s).bind (retV s)
 | rs => (rs.mapM (ARV.val s)).bind fun vs => (snapL s.ob [] vs).map .tup
def AFin (rs : List ARV) (r : PV) : Ex → St → Prop
 | .x _, _ => False
 | _, s => retOf s rs = some r
def init (args : List PV) : St := ⟨ofL ((List.range args.length).zip args), []⟩
def binAll (P : Program) (op : BinOp) (t : TypeId) (x y : Operand) : Option AO :=
 match op, P.underlying t with
 | .eql, some (.struct _) => cEqs P false t x y
 | .neq, some (.struct _) => cEqs P true t x y
 | op, _ => cBin P op t x y
def okFn (P : Program) (f : Nat) : Bool :=
 match P.funcs[f]? with
 | some fn => !(fn.name == "runtime.NumGoroutine") && !fn.body.isNone
 | none => false
def cCall (P : Program) (c : Call) : Option AO :=
 match c.callee with
 | .builtin .len => match c.args.toList, c.argTypes.toList with
  | [x], [t] => cLen P t x
  | _, _ => none
 | .builtin .append => match c.args.toList, c.argTypes.toList with
  | [x, y], [t, t'] => match cApp P t t' x y with
   | some ao => some ao
   | none => cApps P t t' x y
  | _, _ => none
 | .builtin .unsafeSliceData => match c.args.toList, c.argTypes.toList with
  | [x], [_] => some (.usd (opx x))
  | _, _ => none
 | .builtin .unsafeString => match c.args.toList, c.argTypes.toList with
  | [x, y], [pt, _] => cUst P pt x y
  | _, _ => none
 | .builtin .max => some (.mm true (c.args.toList.map opx))
 | .builtin .min => some (.mm false (c.args.toList.map opx))
 | _ => none
def isNilSlice : Operand → Bool
 | .const (.slice none 0 0) => true
 | _ => false
def opn (b : Bool) (x : Operand) : AX := if (b && isNilSlice x) = true then .k .nils else opx x
def ownDst (own : List Nat) (o : Oper) : Bool :=
 match o.dst with
 | some d => own.contains d
 | none => false
def compOp (P : Program) (own : List Nat) (o : Oper) : Option AO :=
 match o.op with
 | .move x => some (.mv (opx x))
 | .assign x =>
  if ownDst own o && isNilSlice x then
   match P.underlying o.type with
   | some (.slice e) => (P.info? e).map fun i => .nilown i.size
   | _ => none
  else some (.mv (opn (own.contains 9500000) x))
 | .pick c a b => some (.pick (opx c) (opx a) (opx b))
 | .alloc e => if ownDst own o then (if (cBalloc P e).isSome then cBalloc P e else cAlloc P true e) else cAlloc P false e
 | .box _ x => some (.box (opx x))
 | .build t ps => cBuild P (ownDst own o) t ps
 | .buildSlice t n ps => cBlds P (ownDst own o) t n ps
 | .load t x => cLoad P t x
 | .store t x y => cStore P t x y
 | .nilCheck x => some (.nilck (opx x))
 | .binOp op t x y _ => binAll P op t x y
 | .unOp op _ x => some (.un op (opx x))
 | .convert src dst x => cConv P (ownDst own o) src dst x
 | .makeInterface t x => cMki P t x
 | .typeAssert x _ t true => cTas P t x
 | .makeFunc f first cap => some (.mkfn f (first.toList.map opx) (cap.toList.map opx))
 | .slice t x lo hi none => cSlice P t x lo hi
 | .fieldAddr t x f => cFaddr P t x f
 | .field t x f => cFld P t x f
 | .indexAddr t x i => cIaddr P t x i
 | .index t x i => cIdx P t x i
 | .extract x i => some (.ext i (opx x))
 | .makeSlice t x y => cMks P (ownDst own o) t x y
 | .call c => cCall P c
 | _ => none
def AO.isCall : AO → Bool
 | .call .. | .callv .. | .icall .. | .icallv .. | .icalli .. | .mop .. | .rcall .. | .ecall .. | .rcalli .. => true
 | _ => false
def cMapT (P : Program) (t : TypeId) : Option (TypeId × TypeId) :=
 match P.underlying t with
 | some (.map k e) => match P.underlying k with
  | some (.int .i64) => some (k, e)
  | _ => none
 | _ => none
def cMop (P : Program) (o : Oper) : Option AO :=
 match o.op with
 | .makeMap _ none => some (.mop .mk [])
 | .lookup t x i ok => (cMapT P t).bind fun q => (P.info? q.2).bind fun i' => i'.zero.map fun z => .mop (.get ok (cvN z)) [opx x, opx i]
 | .mapUpdate t x k v => (cMapT P t).map fun _ => .mop .set [opx x, opx k, opx v]
 | .range t x => (cMapT P t).map fun _ => .mop .rng [opx x]
 | .next x false => some (.mop .nxt [opx x])
 | .entry x => some (.mop .ent [opx x])
 | .call { callee := .builtin .delete, args, argTypes, .. } =>
  match args.toList, argTypes.toList with
  | [x, k], [t, _] => (cMapT P t).map fun _ => .mop .del [opx x, opx k]
  | _, _ => none
 | .call { callee := .builtin .len, args, argTypes, .. } =>
  match args.toList, argTypes.toList with
  | [x], [t] => (cMapT P t).map fun _ => .mop .len [opx x]
  | _, _ => none
 | _ => none
def optX : Option Operand → AX
 | some x => opx x
 | none => .k .bot
def cArrE (P : Program) (o : Oper) : Option AO :=
 match o.op with
 | .buildSlice t n ps =>
  match P.underlying t with
  | some (.slice e) => match zcells P e with
   | some (i, z) => if n * i.size ≤ 2 ^ 24 ∧ (n * i.size = 0 → ps.toList = [] ∧ n = 0) then some (.alit (z.cells.toList.map cvS) n (ps.toList.map fun p => (p.1, opx p.2))) else none
   | none => none
  | _ => none
 | .indexAddr t x i =>
  match P.underlying t with
  | some (.slice e) => (P.info? e).map fun ie => .arr (.ix ie.size) [opx x, opx i]
  | _ => none
 | .slice t x lo hi mx =>
  match P.underlying t with
  | some (.slice e) => if mx.isSome = true ∧ hi.isSome = false then none else (P.info? e).map fun ie => .arr (.sl ie.size lo.isSome hi.isSome mx.isSome) [opx x, optX lo, optX hi, optX mx]
  | _ => none
 | .binOp .eql t x (.const (.slice none 0 0)) _ =>
  match P.underlying t with
  | some (.slice _) => some (.arr (.isnil false) [opx x])
  | _ => none
 | .binOp .neq t x (.const (.slice none 0 0)) _ =>
  match P.underlying t with
  | some (.slice _) => some (.arr (.isnil true) [opx x])
  | _ => none
 | .call { callee := .builtin .len, args, argTypes, .. } =>
  match args.toList, argTypes.toList with
  | [x], [t] => match P.underlying t with
   | some (.slice _) => some (.arr .len [opx x])
   | _ => none
  | _, _ => none
 | .call { callee := .builtin .cap, args, argTypes, .. } =>
  match args.toList, argTypes.toList with
  | [x], [t] => match P.underlying t with
   | some (.slice _) => some (.arr .cap [opx x])
   | _ => none
  | _, _ => none
 | _ => none
def cArrM (P : Program) (o : Oper) : Option AO :=
 match o.op with
 | .call { callee := .builtin .append, args, argTypes, .. } =>
  match args.toList, argTypes.toList with
  | [x, y], [t, t'] => match P.underlying t with
   | some (.slice e) => match zcells P e with
    | some (i, z) => if i.bytes ≤ 65536 ∧ 0 < i.size then
      match P.underlying t' with
      | some (.slice _) => some (.mop (.aapp i.size (z.cells.toList.map cvS)) [opxT x, opxT y])
      | some (.int _) => some (.mop (.aapz i.size (z.cells.toList.map cvS)) [opxT x, opx y])
      | _ => none
     else none
    | none => none
   | _ => none
  | _, _ => none
 | .call { callee := .builtin .copy, args, argTypes, .. } =>
  match args.toList, argTypes.toList with
  | [x, y], [t, _] => match P.underlying t with
   | some (.slice e) => (P.info? e).map fun i => .mop (.acpy i.size) [opxT x, opxT y]
   | _ => none
  | _, _ => none
 | .call { callee := .builtin .clear, args, argTypes, .. } =>
  match args.toList, argTypes.toList with
  | [x], [t] => match P.underlying t with
   | some (.slice e) => match zcells P e with
    | some (_, z) => some (.mop (.aclr (z.cells.toList.map cvS)) [opxT x])
    | none => none
   | _ => none
  | _, _ => none
 | _ => none
def arrOn (own : List Nat) (x : Option AO) : Option AO := if own.contains 7000000 then x else none
def compAny (P : Program) (own : List Nat) (o : Oper) : Option AO :=
 match o.op with
 | .call { callee := .value (.func f), args, .. } => if okFn P f then some (if own.contains (4000000 + f) then .rcall f (args.toList.map opx) else if own.contains (1000000 + f) then .icall f (args.toList.map (opn (own.contains (3000000 + f)))) else .call (ownDst own o) f (args.toList.map (opn (own.contains (3000000 + f))))) else if own.contains (8000000 + f) then some (.ecall f (args.toList.map opx)) else some .fail
 | .call { callee := .value (.tmp t), args, .. } => some (if own.contains 2000000 then .icallv (.t t) (args.toList.map opx) else .callv (.t t) (args.toList.map opx))
 | .call { callee := .invoke r nm, args, .. } => if (own.contains 9000000 && !(nm == "scoria/tree.where")) = true then some (.rcalli nm (opx r) (args.toList.map opx)) else some (.icalli nm (opx r) (args.toList.map opx))
 | _ =>
  match arrOn own (cArrM P o) with
  | some ao => some ao
  | none =>
  match arrOn own (cArrE P o) with
  | some ao => some ao
  | none =>
  match cMop P o with
  | some ao => some ao
  | none =>
  match compOp P own o with
  | some ao => if ao.isCall then some .fail else some ao
  | none => some .fail
open Go.RowKit
section
variable {P : Program} {c : Ctx} {F : Nat → Prop} {l : Locs} {w : World} {s : St} {a : Act}
theorem opn_sound {s : St} {a : Act} {w : World} {F : Nat → Prop} {l : Locs} (hs : SlotsOk w F l s a) (b : Bool) (x : Operand) : R1 w F l (s.val (opn b x)) (a.eval x) := by
 unfold opn
 split
 ·rename_i h
  simp only [Bool.and_eq_true] at h
  have h2 := h.2
  unfold isNilSlice at h2
  split at h2
  ·exact R1.nils
  ·cases h2
 ·exact opx_sound hs x
theorem out_run {c : Ctx} {F : Nat → Prop} {l : Locs} {w : World} {res : Result Next} {pv : PV} {ob' : List AObj} {v : Value} {w' : World} {F' : Nat → Prop} {l' : Locs} (h : res = .ok (.value v) w') (R : RepW c F' l' ob' w') (hv : R1 w' F' l' pv v) (m : Mono w F l w' F' l') : Out c w F l res pv ob' :=
 ⟨v, w', F', l', .inl h, R, hv, m⟩
theorem evnil {a : Act} : a.eval (.const (.slice none 0 0)) = .slice none 0 0 := rfl
theorem andThen_assoc {α β γ : Type} (r : Result α) (f : α → World → Result β) (g : β → World → Result γ) : (r.andThen f).andThen g = r.andThen fun x w => (f x w).andThen g := by cases r <;> rfl
theorem ev_sound {own : List Nat} {forb : List Nat} {nw : Option Nat} {o : Oper} {ao : AO} {pv : PV} {ob' : List AObj} (hc : compOp P own o = some ao) (R : RepW c F l s.ob w) (hs : SlotsOk w F l s a) (he : ev forb nw s ao = some (pv, ob')) :
  Out c w F l ((execOp a.eval o).run P w) pv ob' := by
 unfold compOp at hc
 split at hc
 ·-- move
  rename_i x hop
  simp only [Option.some.injEq] at hc; subst hc
  simp only [ev, Option.some.injEq, Prod.mk.injEq] at he
  obtain ⟨rfl, rfl⟩ := he
  exact Out.same R (by simp [execOp, hop]) (opx_sound hs x)
 ·-- assign
  rename_i x hop
  split at hc
  ·rename_i hcond
   split at hc
   ·rename_i e hu
    simp only [Option.map_eq_some_iff] at hc
    obtain ⟨i, hi, rfl⟩ := hc
    simp only [ev, Option.map_eq_some_iff] at he
    obtain ⟨⟨k, ob1⟩, hmk, he⟩ := he
    simp only [Prod.mk.injEq] at he
    obtain ⟨rfl, rfl⟩ := he
    obtain ⟨l', R', m', hv⟩ := new_nil R hmk
    simp only [Bool.and_eq_true] at hcond
    have hx : a.eval x = .slice none 0 0 := by
     have := hcond.2
     unfold isNilSlice at this
     split at this
     ·rfl
     ·cases this
    exact out_run (by simp [execOp, hop, hx]) R' hv m'
   ·cases hc
  ·simp only [Option.some.injEq] at hc; subst hc
   simp only [ev, Option.some.injEq, Prod.mk.injEq] at he
   obtain ⟨rfl, rfl⟩ := he
   exact Out.same R (by simp [execOp, hop]) (opn_sound hs _ x)
 ·-- pick
  rename_i x y z hop
  simp only [Option.some.injEq] at hc; subst hc
  obtain ⟨v, rfl, h1, h2⟩ := pick_sound hop hs he
  exact Out.same R h1 h2
 ·rename_i e hop
  split at hc
  ·split at hc
   ·obtain ⟨v, w', l', h1, R', m', h2⟩ := balloc_sound hc R he
    exact out_run (by simp [execOp, hop, h1]) R' h2 m'
   ·obtain ⟨v, w', l', h1, R', m', h2⟩ := alloc_sound hc R he
    exact out_run (by simp [execOp, hop, h1]) R' h2 m'
  ·obtain ⟨v, w', l', h1, R', m', h2⟩ := alloc_sound hc R he
   exact out_run (by simp [execOp, hop, h1]) R' h2 m'
 ·rename_i e x hop
  simp only [Option.some.injEq] at hc; subst hc
  obtain ⟨v, w', l', h1, R', m', h2⟩ := box_sound (P := P) (e := e) R hs he
  exact out_run (by simp [execOp, hop, h1]) R' h2 m'
 ·rename_i t ps hop
  obtain ⟨v, rfl, h1, h2⟩ := build_sound (w := w) hc hs he
  exact Out.same R (by simp only [execOp, hop, Sem.run_bind, h1, Result.andThen_ok, Sem.run_pure]) h2
 ·rename_i t n ps hop
  obtain ⟨v, w', F', l', h1, R', m', h2⟩ := blds_sound hc R hs he
  exact out_run (by simp only [execOp, hop, Sem.run_bind, h1, Result.andThen_ok, Sem.run_pure]) R' h2 m'
 ·rename_i t x hop
  obtain ⟨v, rfl, h1, h2⟩ := cLoad_sound hc R hs he
  exact Out.same R (by simp [execOp, hop, h1]) h2
 ·rename_i t x y hop
  obtain ⟨rfl, w', l', h1, R', m'⟩ := cStore_sound hc R hs he
  exact ⟨undef, w', F, l', .inr ⟨by simp [execOp, hop, h1], rfl⟩, R', .bot _, m'⟩
 ·rename_i x hop
  simp only [Option.some.injEq] at hc; subst hc
  obtain ⟨v, rfl, h1, h2⟩ := nilck_sound (P := P) hop hs he
  exact Out.same R h1 h2
 ·-- binOp
  rename_i op t x y yt hop
  have hrun : (execOp a.eval o).run P w = ((do eqGuard op t x y (a.eval x) (a.eval y); binOp op t (a.eval x) (a.eval y)).run P w).andThen fun v w => .ok (.value v) w := by
   simp only [execOp, hop, Sem.run_bind, Sem.run_pure, andThen_assoc]
  rw [hrun]
  unfold binAll at hc
  split at hc
  ·obtain ⟨v, rfl, h1, h2⟩ := eqs_sound (w := w) hc hs he
   exact Out.same R (by simp only [Bool.false_eq_true, if_false] at h1; rw [h1]; rfl) h2
  ·obtain ⟨v, rfl, h1, h2⟩ := eqs_sound (w := w) hc hs he
   exact Out.same R (by simp only [if_true] at h1; rw [h1]; rfl) h2
  ·unfold cBin at hc
   split at hc
   ·simp only [Option.some.injEq] at hc; subst hc
    obtain ⟨v, rfl, h1, h2⟩ := eqb_sound (t := t) (w := w) (P := P) (by assumption) hs he
    exact Out.same R (by simp only [Bool.false_eq_true, if_false] at h1; rw [h1]; rfl) h2
   ·simp only [Option.some.injEq] at hc; subst hc
    obtain ⟨v, rfl, h1, h2⟩ := eqb_sound (t := t) (w := w) (P := P) (by assumption) hs he
    exact Out.same R (by simp only [if_true] at h1; rw [h1]; rfl) h2
   ·simp only [Option.some.injEq] at hc; subst hc
    obtain ⟨v, rfl, h1, h2⟩ := bin_sound (P := P) (w := w) (t := t) hs he
    exact Out.same R (by rw [h1]; rfl) h2
   ·simp only [Option.some.injEq] at hc; subst hc
    obtain ⟨v, rfl, h1, h2⟩ := bin_sound (P := P) (w := w) (t := t) hs he
    exact Out.same R (by rw [h1]; rfl) h2
   ·simp only [Option.some.injEq] at hc; subst hc
    obtain ⟨v, rfl, h1, h2⟩ := bin_sound (P := P) (w := w) (t := t) hs he
    exact Out.same R (by rw [h1]; rfl) h2
   ·simp only [Option.some.injEq] at hc; subst hc
    obtain ⟨v, rfl, h1, h2⟩ := bin_sound (P := P) (w := w) (t := t) hs he
    exact Out.same R (by rw [h1]; rfl) h2
   ·split at hc
    ·simp only [Option.some.injEq] at hc; subst hc
     obtain ⟨v, rfl, h1, h2⟩ := nilsl_sound (P := P) (w := w) (t := t) (by assumption) hs he
     exact Out.same R (by simp only [Bool.false_eq_true, if_false] at h1; rw [evnil, h1]; rfl) h2
    ·cases hc
   ·split at hc
    ·simp only [Option.some.injEq] at hc; subst hc
     obtain ⟨v, rfl, h1, h2⟩ := nilsl_sound (P := P) (w := w) (t := t) (by assumption) hs he
     exact Out.same R (by simp only [if_true] at h1; rw [evnil, h1]; rfl) h2
    ·cases hc
   ·split at hc
    ·simp only [Option.some.injEq] at hc; subst hc
     simp only [ev, Option.map_eq_some_iff, Prod.mk.injEq] at he
     obtain ⟨b, hb, rfl, rfl⟩ := he
     have h1 := isn_run (P := P) (t := t) (x := x) false (opx_sound hs x) hb (.inl ⟨_, rfl, by assumption, rfl⟩)
     exact Out.same R (by simp only [Bool.false_eq_true, if_false] at h1; rw [show ∀ z, a.eval (.const z) = z from fun _ => rfl, h1]; rfl) (.bool _)
    ·cases hc
   ·split at hc
    ·simp only [Option.some.injEq] at hc; subst hc
     simp only [ev, Option.map_eq_some_iff, Prod.mk.injEq] at he
     obtain ⟨b, hb, rfl, rfl⟩ := he
     have h1 := isn_run (P := P) (t := t) (x := x) true (opx_sound hs x) hb (.inl ⟨_, rfl, by assumption, rfl⟩)
     exact Out.same R (by simp only [if_true] at h1; rw [show ∀ z, a.eval (.const z) = z from fun _ => rfl, h1]; rfl) (.bool _)
    ·cases hc
   ·split at hc
    ·simp only [Option.some.injEq] at hc; subst hc
     simp only [ev, Option.map_eq_some_iff, Prod.mk.injEq] at he
     obtain ⟨b, hb, rfl, rfl⟩ := he
     have h1 := isn_run (P := P) (t := t) (x := x) false (opx_sound hs x) hb (.inr (.inl ⟨_, rfl, by assumption, rfl⟩))
     exact Out.same R (by simp only [Bool.false_eq_true, if_false] at h1; rw [show ∀ z, a.eval (.const z) = z from fun _ => rfl, h1]; rfl) (.bool _)
    ·cases hc
   ·split at hc
    ·simp only [Option.some.injEq] at hc; subst hc
     simp only [ev, Option.map_eq_some_iff, Prod.mk.injEq] at he
     obtain ⟨b, hb, rfl, rfl⟩ := he
     have h1 := isn_run (P := P) (t := t) (x := x) true (opx_sound hs x) hb (.inr (.inl ⟨_, rfl, by assumption, rfl⟩))
     exact Out.same R (by simp only [if_true] at h1; rw [show ∀ z, a.eval (.const z) = z from fun _ => rfl, h1]; rfl) (.bool _)
    ·cases hc
   ·split at hc
    ·simp only [Option.some.injEq] at hc; subst hc
     simp only [ev, Option.map_eq_some_iff, Prod.mk.injEq] at he
     obtain ⟨b, hb, rfl, rfl⟩ := he
     have h1 := isn_run (P := P) (t := t) (x := x) false (opx_sound hs x) hb (.inr (.inr ⟨_, _, rfl, by assumption, rfl⟩))
     exact Out.same R (by simp only [Bool.false_eq_true, if_false] at h1; rw [show ∀ z, a.eval (.const z) = z from fun _ => rfl, h1]; rfl) (.bool _)
    ·cases hc
   ·split at hc
    ·simp only [Option.some.injEq] at hc; subst hc
     simp only [ev, Option.map_eq_some_iff, Prod.mk.injEq] at he
     obtain ⟨b, hb, rfl, rfl⟩ := he
     have h1 := isn_run (P := P) (t := t) (x := x) true (opx_sound hs x) hb (.inr (.inr ⟨_, _, rfl, by assumption, rfl⟩))
     exact Out.same R (by simp only [if_true] at h1; rw [show ∀ z, a.eval (.const z) = z from fun _ => rfl, h1]; rfl) (.bool _)
    ·cases hc
   ·cases hc
   ·cases hc
   ·simp only [Option.some.injEq] at hc; subst hc
    obtain ⟨v, rfl, h1, h2⟩ := bin_sound (P := P) (w := w) (t := t) hs he
    exact Out.same R (by rw [h1]; rfl) h2
 ·rename_i op t x hop
  simp only [Option.some.injEq] at hc; subst hc
  obtain ⟨v, rfl, h1, h2⟩ := un_sound (P := P) (w := w) hs he
  exact Out.same R (by simp [execOp, hop, h1]) h2
 ·-- convert
  rename_i src dst x hop
  unfold cConv at hc
  split at hc
  ·rename_i q k hu1 hu2
   simp only [Option.some.injEq] at hc; subst hc
   obtain ⟨v, rfl, h1, h2⟩ := conv_sound (w := w) hu1 hu2 hs he
   exact Out.same R (by simp [execOp, hop, h1]) h2
  ·rename_i e hu1 hu2
   split at hc
   ·rename_i hu3
    simp only [Option.some.injEq] at hc; subst hc
    obtain ⟨v, rfl, h1, h2⟩ := b2s_sound (P := P) hu1 hu2 hu3 R hs he
    exact Out.same R (by simp [execOp, hop, h1]) h2
   ·cases hc
  ·rename_i e hu1 hu2
   split at hc
   ·rename_i hu3
    simp only [Option.some.injEq] at hc; subst hc
    obtain ⟨v, w', F', l', h1, R', m', h2⟩ := s2b_sound (P := P) hu1 hu2 hu3 R hs he
    exact out_run (by simp [execOp, hop, h1]) R' h2 m'
   ·cases hc
  ·cases hc
 ·rename_i t x hop
  obtain ⟨v, rfl, h1, h2⟩ := mki_sound (P := P) (w := w) hc hs he
  exact Out.same R (by simp [execOp, hop, h1]) h2
 ·rename_i x xT t hop
  obtain ⟨v, rfl, h1, h2⟩ := tas_sound (P := P) (w := w) (xT := xT) hc hs he
  exact Out.same R (by simp [execOp, hop, h1]) h2
 ·rename_i f first cap hop
  simp only [Option.some.injEq] at hc; subst hc
  obtain ⟨v, rfl, h1, h2⟩ := mkfn_sound (P := P) (w := w) hs he
  exact Out.same R (by simp [execOp, hop, h1]) h2
 ·rename_i t x lo hi hop
  obtain ⟨v, rfl, h1, h2⟩ := slice_sound hc R hs he
  exact Out.same R (by simp [execOp, hop, h1]) h2
 ·rename_i t x f hop
  obtain ⟨v, rfl, h1, h2⟩ := cFaddr_sound (w := w) hc hs he
  exact Out.same R (by simp [execOp, hop, h1]) h2
 ·rename_i t x f hop
  obtain ⟨v, rfl, h1, h2⟩ := fld_sound (w := w) hc hs he
  exact Out.same R (by simp [execOp, hop, h1]) h2
 ·rename_i t x i hop
  obtain ⟨v, rfl, h1, h2⟩ := cIaddr_sound hc R hs he
  exact Out.same R (by simp [execOp, hop, h1]) h2
 ·rename_i t x i hop
  obtain ⟨v, rfl, h1, h2⟩ := idx_sound (w := w) hc hs he
  exact Out.same R (by simp [execOp, hop, h1]) h2
 ·rename_i x i hop
  simp only [Option.some.injEq] at hc; subst hc
  obtain ⟨v, rfl, h1, h2⟩ := ext_sound (P := P) (w := w) hs he
  exact Out.same R (by simp [execOp, hop, h1]) h2
 ·rename_i t x y hop
  obtain ⟨v, w', F', l', h1, R', m', h2⟩ := mks_sound hc R hs he
  exact out_run (by simp [execOp, hop, h1]) R' h2 m'
 ·-- calls of builtins
  rename_i cl hop
  obtain ⟨callee, args, argTypes⟩ := cl
  unfold cCall at hc
  simp only [] at hc
  split at hc
  ·split at hc
   ·rename_i x t h1 h2
    obtain ⟨v, rfl, h3, h4⟩ := len_sound (ty := o.type) hc R hs he
    have ea : args = #[x] := by apply Array.ext'; simpa using h1
    have et : argTypes = #[t] := by apply Array.ext'; simpa using h2
    exact Out.same R (by simp [execOp, hop, resolve, invoke, builtin, ea, et, h3]) h4
   ·cases hc
  ·split at hc
   ·rename_i x y t t' h1 h2
    have ea : args = #[x, y] := by apply Array.ext'; simpa using h1
    have et : argTypes = #[t, t'] := by apply Array.ext'; simpa using h2
    split at hc
    ·rename_i ao' hao'
     simp only [Option.some.injEq] at hc; subst hc
     obtain ⟨v, w', F', l', h3, R', m', h4⟩ := app_sound (ty := o.type) hao' R hs he
     exact out_run (by simp [execOp, hop, resolve, invoke, builtin, ea, et, h3]) R' h4 m'
    ·obtain ⟨v, w', F', l', h3, R', m', h4⟩ := apps_sound (ty := o.type) hc R hs he
     exact out_run (by simp [execOp, hop, resolve, invoke, builtin, ea, et, h3]) R' h4 m'
   ·cases hc
  ·split at hc
   ·rename_i x t h1 h2
    simp only [Option.some.injEq] at hc; subst hc
    obtain ⟨v, rfl, h3, h4⟩ := usd_sound (P := P) (t := t) (ty := o.type) R hs he
    have ea : args = #[x] := by apply Array.ext'; simpa using h1
    have et : argTypes = #[t] := by apply Array.ext'; simpa using h2
    exact Out.same R (by simp [execOp, hop, resolve, invoke, builtin, ea, et, h3]) h4
   ·cases hc
  ·split at hc
   ·rename_i x y pt it h1 h2
    obtain ⟨v, w', F', l', h3, R', m', h4⟩ := ust_sound (it := it) (ty := o.type) hc R hs he
    have ea : args = #[x, y] := by apply Array.ext'; simpa using h1
    have et : argTypes = #[pt, it] := by apply Array.ext'; simpa using h2
    exact out_run (by simp [execOp, hop, resolve, invoke, builtin, ea, et, h3]) R' h4 m'
   ·cases hc
  ·simp only [Option.some.injEq] at hc; subst hc
   obtain ⟨v, rfl, h1, h2⟩ := mm_sound (P := P) (w := w) (ts := argTypes) (ty := o.type) hs he
   simp only [if_true] at h1
   exact Out.same R (by simp [execOp, hop, resolve, invoke, builtin, h1]) h2
  ·simp only [Option.some.injEq] at hc; subst hc
   obtain ⟨v, rfl, h1, h2⟩ := mm_sound (P := P) (w := w) (ts := argTypes) (ty := o.type) hs he
   simp only [Bool.false_eq_true, if_false] at h1
   exact Out.same R (by simp [execOp, hop, resolve, invoke, builtin, h1]) h2
  ·cases hc
 ·cases hc
end
end Go.Proofs.YtdgpiobmncohjaaGreatDoor.Aw
