/-
  The abstract operations: what each does to abstract values and to the objects that the call itself made. Definitions alone.
-/
import Derived.Test.YtdgpiobmncohjaaGreatAwVal
namespace Go.Proofs.YtdgpiobmncohjaaGreat.Aw
open Go.RowKit

inductive AObj where
  | none
  | box (cells : List PV)
  | list (esz : Nat) (rows : List (List PV))
  | tbox (t : TypeId) (cells : List PV)
  | buf (t : TypeId) (bytes : List UInt8)
  /- a map from numbers: its clock, and of each entry when it came, its key, what is kept -/
  | map (clock : Nat) (es : List (Nat × Int × PV))
  /- a walk over a map: which one, its clock then, which entries have come, its clock at the last step -/
  | iter (m since : Nat) (seen : List Nat) (last : Nat)
  | junk

structure St where
  sl : Nat → PV
  ob : List AObj

inductive AX where
  | t (i : Nat)
  | k (v : PV)

def St.val (s : St) : AX → PV
  | .t i => s.sl i
  | .k v => v

def PV.scal : PV → Bool
  | .agg _ | .tup _ | .bot | .osl .. | .lref .. | .bsl .. | .own .. | .asl .. => false
  | _ => true

def PV.isNils : PV → Bool
  | .nils => true
  | _ => false

/-- Cells that may be stored: an own slice's too. -/
def PV.cell? : PV → Bool
  | .agg _ | .tup _ | .bot | .own .. => false
  | _ => true

def PV.cellsOf : PV → List PV
  | .agg cs => cs
  | v => [v]

def setAt (cs : List PV) (off : Nat) (vs : List PV) : List PV := cs.take off ++ (vs ++ cs.drop (off + vs.length))

def ldC (ob : List AObj) (forb : List Nat) (p : PV) (n : Nat) : Option (List PV) :=
  match p with
  | .ref o off =>
    if forb.contains o then none else
    match ob[o]? with
    | some (.box cs) => if off + n ≤ cs.length then some ((cs.drop off).take n) else none
    | some (.tbox _ cs) => if off + n ≤ cs.length then some ((cs.drop off).take n) else none
    | _ => none
  | .lref o i off len =>
    if forb.contains o then none else
    match ob[o]? with
    | some (.list _ rows) =>
      if rows.length = len then
        match rows[i]? with
        | some r => if off + n ≤ r.length then some ((r.drop off).take n) else none
        | none => none
      else none
    | _ => none
  | .fptr cs => if n ≤ cs.length then some (cs.take n) else none
  | _ => none

def stC (ob : List AObj) (forb : List Nat) (p : PV) (vs : List PV) : Option (List AObj) :=
  match p with
  | .ref o off =>
    if forb.contains o then none else
    match ob[o]? with
    | some (.box cs) => if off + vs.length ≤ cs.length then some (ob.set o (.box (setAt cs off vs))) else none
    | some (.tbox t cs) => if off + vs.length ≤ cs.length then some (ob.set o (.tbox t (setAt cs off vs))) else none
    | _ => none
  | .lref o i off len =>
    if forb.contains o || ownL vs then none else
    match ob[o]? with
    | some (.list esz rows) =>
      if rows.length = len then
        match rows[i]? with
        | some r => if off + vs.length ≤ r.length then some (ob.set o (.list esz (rows.set i (setAt r off vs)))) else none
        | none => none
      else none
    | _ => none
  | _ => none

def byteRows (s : List UInt8) : List (List PV) := s.map fun b => [.int .u8 b.toNat]

/-- The rows of a slice. -/
def rowsOf (ob : List AObj) (forb : List Nat) : PV → Option (List (List PV))
  | .nils => some []
  | .slc rows => some rows
  | .osl o i n =>
    if forb.contains o then none else
    match ob[o]? with
    | some (.list _ rows) => if i + n = rows.length then some (rows.drop i) else none
    | some (.buf _ bs) => if i = 0 ∧ n = bs.length then some (byteRows bs) else none
    | _ => none
  | .bsl o off n =>
    if forb.contains o then none else
    match ob[o]? with
    | some (.box cs) => if off + n ≤ cs.length ∧ ownL cs = false then some (((cs.drop off).take n).map fun c => [c]) else none
    | _ => none
  | _ => none

/-- All rows have one length. -/
def rowsOk (esz : Nat) (rows : List (List PV)) : Bool := rows.all fun r => decide (r.length = esz)

theorem rowsOk_iff {esz : Nat} {rows : List (List PV)} : rowsOk esz rows = true ↔ ∀ r ∈ rows, r.length = esz := by simp [rowsOk]
theorem rowsOk_map {α : Type} {esz : Nat} {f : α → List PV} (h : ∀ x, (f x).length = esz) (l : List α) : rowsOk esz (l.map f) = true := by simp [rowsOk, h]

/-- A new object, at the end or (where the order is open) in the place kept for it. -/
def mkO (s : St) (nw : Option Nat) (a : AObj) : Option (Nat × List AObj) :=
  match nw with
  | none => some (s.ob.length, s.ob ++ [a])
  | some i =>
    match s.ob[i]? with
    | some .none => some (i, s.ob.set i a)
    | _ => none

def binI (op : BinOp) (k : IntKind) (a b : Int) : Option PV :=
  match op with
  | .add => some (.int k (k.wrap (a + b)))
  | .sub => some (.int k (k.wrap (a - b)))
  | .mul => some (.int k (k.wrap (a * b)))
  | .quo => if b = 0 then none else some (.int k (k.wrap (a.tdiv b)))
  | .rem => if b = 0 then none else some (.int k (a.tmod b))
  | .and => some (.int k (k.wrap (BitVec.ofInt k.bits a &&& BitVec.ofInt k.bits b).toNat))
  | .or => some (.int k (k.wrap (BitVec.ofInt k.bits a ||| BitVec.ofInt k.bits b).toNat))
  | .xor => some (.int k (k.wrap (BitVec.ofInt k.bits a ^^^ BitVec.ofInt k.bits b).toNat))
  | .andNot => some (.int k (k.wrap (BitVec.ofInt k.bits a &&& ~~~ (BitVec.ofInt k.bits b)).toNat))
  | .eql => some (.bool (a == b))
  | .neq => some (.bool (a != b))
  | .lss => some (.bool (decide (a < b)))
  | .leq => some (.bool (decide (a ≤ b)))
  | .gtr => some (.bool (decide (b < a)))
  | .geq => some (.bool (decide (b ≤ a)))
  | _ => none

def shI (op : BinOp) (k : IntKind) (a b : Int) : Option PV :=
  if b < 0 then none else
  match op with
  | .shl => some (.int k (k.wrap (a * 2 ^ min b.toNat k.bits)))
  | .shr => some (.int k (a.fdiv (2 ^ min b.toNat k.bits)))
  | _ => none

def binS (op : BinOp) (a b : List UInt8) : Option PV :=
  match op with
  | .add => if a.length + b.length ≤ 9223372036854775807 then some (.str (a ++ b)) else none
  | .eql => some (.bool (a == b))
  | .neq => some (.bool (!(a == b)))
  | _ => none

/-- The kind of a cell that is compared. -/
inductive CK where
  | i | b | s

/-- Equality of values of scalar types, cell by cell. -/
def eqC : CK → PV → PV → Option Bool
  | .i, .int k a, .int k' b => if k = k' then some (a == b) else none
  | .b, .bool a, .bool b => some (a == b)
  | .s, .str a, .str b => some (a == b)
  | _, _, _ => none

def eqCs : List CK → List PV → List PV → Option Bool
  | [], [], [] => some true
  | k :: ks, a :: r, b :: r' =>
    match eqC k a b, eqCs ks r r' with
    | some x, some y => some (x && y)
    | _, _ => none
  | _, _, _ => none

def binV (op : BinOp) (x y : PV) : Option PV :=
  match x, y with
  | .int k a, .int k' b =>
    match op with
    | .shl | .shr => shI op k a b
    | _ => if k = k' then binI op k a b else none
  | .str a, .str b => binS op a b
  | _, _ => none

def unV (op : UnOp) (x : PV) : Option PV :=
  match op, x with
  | .not, .bool b => some (.bool (!b))
  | .neg, .int k n => some (.int k (k.wrap (0 - n)))
  | .xor, .int k n => some (.int k (k.wrap (BitVec.ofInt k.bits (if k.signed then -1 else k.max) ^^^ BitVec.ofInt k.bits n).toNat))
  | _, _ => none

def byteOf? : List PV → Option UInt8
  | [.int .u8 n] => some (UInt8.ofNat n.toNat)
  | _ => none

def bytesOf? : List (List PV) → Option (List UInt8)
  | [] => some []
  | r :: rs =>
    match byteOf? r, bytesOf? rs with
    | some b, some l => some (b :: l)
    | _, _ => none

/-- What may be nil. -/
inductive NK where
  | p | i | m

/-- An operation on maps. -/
inductive MOp where
  | mk
  | get (ok : Bool) (z : PV)
  | set
  | del
  | len
  | rng
  | nxt
  | ent
  | aapp (e : Nat) (z : List PV)
  | aapz (e : Nat) (z : List PV)
  | acpy (e : Nat)
  | aclr (z : List PV)

/-- An operation on slices over boxes. -/
inductive ArrOp where
  | len
  | cap
  | ix (e : Nat)
  | sl (e : Nat) (lo hi mx : Bool)
  | isnil (neg : Bool)

inductive AO where
  | mv (x : AX)
  | pick (c a b : AX)
  | alloc (z : List PV)
  | box (x : AX)
  | build (z : List PV) (parts : List (Nat × Nat × AX))
  | blds (own : Bool) (z : List PV) (len : Nat) (parts : List (Nat × AX))
  | load (n : Option Nat) (a : AX)
  | store (n : Nat) (a x : AX)
  | nilck (x : AX)
  | bin (op : BinOp) (x y : AX)
  | eqs (neg : Bool) (ks : List CK) (x y : AX)
  | eqb (neg : Bool) (x y : AX)
  | un (op : UnOp) (x : AX)
  | conv (k : IntKind) (x : AX)
  | b2s (x : AX)
  | s2b (own : Bool) (x : AX)
  | faddr (off : Nat) (x : AX)
  | fld (n : Option Nat) (off : Nat) (x : AX)
  | iarr (esz len : Nat) (x i : AX)
  | isl (esz : Nat) (x i : AX)
  | idxs (x i : AX)
  | idxa (n : Option Nat) (esz len : Nat) (x i : AX)
  | sstr (x : AX) (lo hi : Option AX)
  | ssl (esz : Nat) (x : AX) (lo hi : Option AX)
  | sarr (esz len : Nat) (x : AX) (lo hi : Option AX)
  | ext (i : Nat) (x : AX)
  | mkfn (f : Fn) (first cap : List AX)
  | mki (t : TypeId) (x : AX)
  | tas (t : TypeId) (x : AX)
  | lenc (n : Nat)
  | lens (x : AX)
  | len (x : AX)
  | app (esz bytes : Nat) (z : List PV) (x y : AX)
  | apps (e : TypeId) (x y : AX)
  | mm (isMax : Bool) (xs : List AX)
  | mks (own : Bool) (z : List PV) (bytes : Nat) (x y : AX)
  | nilown (esz : Nat)
  | nilsl (neg : Bool) (x : AX)
  | isn (k : NK) (neg : Bool) (x : AX)
  | fail
  | icall (f : Nat) (args : List AX)
  | icallv (f : AX) (args : List AX)
  | icalli (nm : String) (x : AX) (args : List AX)
  | balloc (t u : TypeId)
  | usd (x : AX)
  | ust (e : TypeId) (x y : AX)
  | call (own : Bool) (f : Nat) (args : List AX)
  | callv (f : AX) (args : List AX)
  | mop (m : MOp) (args : List AX)
  | rcall (f : Nat) (args : List AX)
  | arr (op : ArrOp) (xs : List AX)
  | alit (z : List PV) (len : Nat) (parts : List (Nat × AX))
  | ecall (f : Nat) (args : List AX)
  | rcalli (nm : String) (x : AX) (args : List AX)

/-- Whether a value is nil. -/
def isNil? : NK → PV → Option Bool
  | .p, .nilp => some true
  | .p, .ref .. => some false
  | .p, .lref .. => some false
  | .p, .fptr _ => some false
  | .i, .nili => some true
  | .i, .ifc .. => some false
  | .m, .nilm => some true
  | .m, .mp _ => some false
  | _, _ => none

/-- A value of which it is known how many cells it has. -/
def PV.known : PV → Bool
  | .bot | .own .. => false
  | _ => true

/-- A part laid into cells. -/
def fillA (s : St) : List PV → List (Nat × Nat × AX) → Option (List PV)
  | z, [] => some z
  | z, (off, sz, x) :: r =>
    if (s.val x).known ∧ (s.val x).cellsOf.length = sz ∧ off + sz ≤ z.length then fillA s (setAt z off (s.val x).cellsOf) r else none

def fillR (s : St) (n : Nat) : List (List PV) → List (Nat × AX) → Option (List (List PV))
  | z, [] => some z
  | z, (i, x) :: r =>
    if (s.val x).known ∧ (s.val x).cellsOf.length = n ∧ i < z.length then fillR s n (z.set i (s.val x).cellsOf) r else none

def asI : PV → Option Int
  | .int _ n => some n
  | _ => none

def optI (s : St) : Option AX → Option (Option Int)
  | none => some none
  | some x => (asI (s.val x)).map some

/-- The bounds of a slicing, where they are in order. -/
def bounds (len : Nat) (lo hi : Option Int) : Option (Nat × Nat) :=
  let h := hi.getD len
  let l := lo.getD 0
  if 0 ≤ l ∧ l ≤ h ∧ h ≤ len then some (l.toNat, h.toNat) else none

def mmI (isMax : Bool) (k : IntKind) : Int → List PV → Option Int
  | a, [] => some a
  | a, .int k' b :: r => if k = k' then mmI isMax k (if isMax then (if b > a then b else a) else (if b < a then b else a)) r else none
  | _, _ => none

/-- A part of a struct or array value. -/
def partPV (n : Option Nat) (off : Nat) (cs : List PV) : Option PV :=
  match n with
  | none => cs[off]?
  | some n => if off + n ≤ cs.length then some (.agg ((cs.drop off).take n)) else none

def asBnd (b : Bool) (p : PV) (d : Int) : Option Int := if b then asI p else some d
def aslB (e o off n c : Nat) (l h m : Option Int) : Option PV :=
  match l, h, m with
  | some l, some h, some m => if 0 ≤ l ∧ l ≤ h ∧ h ≤ m ∧ m ≤ (c : Int) then some (.asl o (off + l.toNat * e) (h - l).toNat (m - l).toNat) else none
  | _, _, _ => none
def nilB (l h m : Option Int) : Option PV :=
  match l, h, m with
  | some l, some h, some m => if l = 0 ∧ h = 0 ∧ m = 0 then some .nils else none
  | _, _, _ => none
def arrV (op : ArrOp) (xs : List PV) : Option PV :=
  match op, xs with
  | .len, [.asl _ _ n _] => some (.int .i64 n)
  | .len, [.nils] => some (.int .i64 0)
  | .cap, [.asl _ _ _ c] => some (.int .i64 c)
  | .cap, [.nils] => some (.int .i64 0)
  | .ix e, [.asl o off n _, .int _ i] => if 0 ≤ i ∧ i < (n : Int) then some (.ref o (off + i.toNat * e)) else none
  | .sl e bl bh bm, [.asl o off n c, lo, hi, mx] => aslB e o off n c (asBnd bl lo 0) (asBnd bh hi n) (asBnd bm mx c)
  | .sl _ bl bh bm, [.nils, lo, hi, mx] => nilB (asBnd bl lo 0) (asBnd bh hi 0) (asBnd bm mx 0)
  | .isnil neg, [.asl _ _ _ _] => some (.bool neg)
  | .isnil neg, [.nils] => some (.bool (!neg))
  | _, _ => none

/-- What an operation other than a call yields, and the objects behind it. -/
def ev (forb : List Nat) (nw : Option Nat) (s : St) : AO → Option (PV × List AObj)
  | .mv x => some (s.val x, s.ob)
  | .pick c a b =>
    match s.val c with
    | .bool t => some (if t then s.val a else s.val b, s.ob)
    | _ => none
  | .alloc z => (mkO s nw (.box z)).map fun (o, ob) => (.ref o 0, ob)
  | .box x => if (s.val x).known ∧ (s.val x).cellsOf.all PV.cell? then (mkO s nw (.box (s.val x).cellsOf)).map fun (o, ob) => (.ref o 0, ob) else none
  | .build z parts => (fillA s z parts).map fun cs => (.agg cs, s.ob)
  | .blds own z len parts =>
    (fillR s z.length (List.replicate len z) parts).bind fun rows =>
      if rows.all (fun r => r.all PV.scal && !ownL r) then
        if own then (mkO s nw (.list z.length rows)).map fun (o, ob) => (.osl o 0 rows.length, ob) else some (.slc rows, s.ob)
      else none
  | .load n a =>
    match n with
    | none => match ldC s.ob forb (s.val a) 1 with
      | some [v] => some (v, s.ob)
      | _ => none
    | some n => (ldC s.ob forb (s.val a) n).map fun cs => (.agg cs, s.ob)
  | .store n a x =>
    let cs := (s.val x).cellsOf
    if cs.length = n ∧ cs.all PV.cell? then (stC s.ob forb (s.val a) cs).map fun ob => (.bot, ob) else none
  | .nilck x =>
    match s.val x with
    | .ref o i => some (.ref o i, s.ob)
    | .lref o i j n => some (.lref o i j n, s.ob)
    | .fptr cs => some (.fptr cs, s.ob)
    | _ => none
  | .bin op x y => (binV op (s.val x) (s.val y)).map fun v => (v, s.ob)
  | .eqs neg ks x y =>
    match s.val x, s.val y with
    | .agg a, .agg b => (eqCs ks a b).map fun t => (.bool (if neg then !t else t), s.ob)
    | _, _ => none
  | .eqb neg x y =>
    match s.val x, s.val y with
    | .bool a, .bool b => some (.bool (if neg then !(a == b) else a == b), s.ob)
    | _, _ => none
  | .un op x => (unV op (s.val x)).map fun v => (v, s.ob)
  | .conv k x =>
    match s.val x with
    | .int _ n => some (.int k (k.wrap n), s.ob)
    | _ => none
  | .b2s x => ((rowsOf s.ob forb (s.val x)).bind bytesOf?).map fun l => (.str l, s.ob)
  | .s2b own x =>
    match s.val x with
    | .str l => if own then (mkO s nw (.list 1 (byteRows l))).map fun (o, ob) => (.osl o 0 l.length, ob) else some (.slc (byteRows l), s.ob)
    | _ => none
  | .faddr off x =>
    match s.val x with
    | .ref o i => some (.ref o (i + off), s.ob)
    | .lref o i j n => some (.lref o i (j + off) n, s.ob)
    | .fptr cs => if off ≤ cs.length then some (.fptr (cs.drop off), s.ob) else none
    | _ => none
  | .fld n off x =>
    match s.val x with
    | .agg cs => (partPV n off cs).map fun v => (v, s.ob)
    | _ => none
  | .iarr esz len x i =>
    match s.val x, s.val i with
    | .ref o j, .int _ n => if 0 ≤ n ∧ n < len then some (.ref o (j + n.toNat * esz), s.ob) else none
    | .fptr cs, .int _ n => if 0 ≤ n ∧ n < len ∧ n.toNat * esz ≤ cs.length then some (.fptr (cs.drop (n.toNat * esz)), s.ob) else none
    | _, _ => none
  | .isl esz x i =>
    match s.val x, s.val i with
    | .slc rows, .int _ n =>
      if 0 ≤ n then
        match rows[n.toNat]? with
        | some r => if r.length = esz then some (.fptr r, s.ob) else none
        | none => none
      else none
    | .osl o j m, .int _ n =>
      if forb.contains o then none else
      match s.ob[o]? with
      | some (.list z rows) => if z = esz ∧ j + m = rows.length ∧ 0 ≤ n ∧ n < m then some (.lref o (j + n.toNat) 0 rows.length, s.ob) else none
      | _ => none
    | .bsl o off m, .int _ n => if 0 ≤ n ∧ n < m then some (.ref o (off + n.toNat * esz), s.ob) else none
    | _, _ => none
  | .idxs x i =>
    match s.val x, s.val i with
    | .str l, .int _ n => if 0 ≤ n then (l[n.toNat]?).map fun b => (.int .u8 b.toNat, s.ob) else none
    | _, _ => none
  | .idxa n esz len x i =>
    match s.val x, s.val i with
    | .agg cs, .int _ j =>
      if 0 ≤ j ∧ j < len then (partPV n (j.toNat * esz) cs).map fun v => (v, s.ob) else none
    | _, _ => none
  | .sstr x lo hi =>
    match s.val x, optI s lo, optI s hi with
    | .str l, some a, some b => (bounds l.length a b).map fun (i, j) => (.str ((l.take j).drop i), s.ob)
    | _, _, _ => none
  | .ssl esz x lo hi =>
    match optI s lo, optI s hi with
    | some a, some b =>
      match s.val x with
      | .slc rows => if rowsOk esz rows = true then (bounds rows.length a b).map fun (i, j) => (.slc ((rows.take j).drop i), s.ob) else none
      | .nils => (bounds 0 a b).map fun _ => (.nils, s.ob)
      | .osl o j m =>
        if forb.contains o then none else
        match s.ob[o]? with
        | some (.list z rows) => if z = esz ∧ j + m = rows.length then (bounds m a b).bind fun (i, k) => if k = m then some (.osl o (j + i) (m - i), s.ob) else none else none
        | _ => none
      | _ => none
    | _, _ => none
  | .sarr esz len x lo hi =>
    match optI s lo, optI s hi with
    | some a, some b =>
      match s.val x with
      | .ref o off => if esz = 1 then (bounds len a b).map fun (i, j) => (.bsl o (if i = len then off else off + i) (j - i), s.ob) else none
      | _ => none
    | _, _ => none
  | .ext i x =>
    match s.val x with
    | .tup cs => (cs[i]?).map fun v => (v, s.ob)
    | _ => none
  | .mkfn f first cap => some (.fn f (first.map s.val) (cap.map s.val), s.ob)
  | .mki t x => some (.ifc t (s.val x), s.ob)
  | .tas t x =>
    match s.val x with
    | .ifc t' p => some (if t' = t then .tup [p, .bool true] else .tup [.nilp, .bool false], s.ob)
    | .nili => some (.tup [.nilp, .bool false], s.ob)
    | _ => none
  | .lenc n => some (.int .i64 n, s.ob)
  | .lens x =>
    match s.val x with
    | .str l => some (.int .i64 l.length, s.ob)
    | _ => none
  | .len x => (rowsOf s.ob forb (s.val x)).map fun r => (.int .i64 r.length, s.ob)
  | .app esz _ _ x y =>
    (rowsOf s.ob forb (s.val y)).bind fun new =>
      if rowsOk esz new = true ∧ new.length ≤ 16777216 then
        match s.val x with
        | .nils => (mkO s nw (.list esz new)).map fun (o, ob) => (.osl o 0 new.length, ob)
        | .osl o i n =>
          if forb.contains o then none else
          match s.ob[o]? with
          | some (.list z rows) => if z = esz ∧ i + n = rows.length ∧ rows.length ≤ 16777216 then some (.osl o i (n + new.length), s.ob.set o (.list z (rows ++ new))) else none
          | _ => none
        | _ => none
      else none
  | .apps e x y =>
    match s.val y with
    | .str l =>
      if l.length ≤ 16777216 then
        match s.val x with
        | .osl o 0 n =>
          if forb.contains o then none else
          match s.ob[o]? with
          | some (.buf u bs) => if u = e ∧ n = bs.length ∧ bs.length ≤ 16777216 then some (.osl o 0 (n + l.length), s.ob.set o (.buf u (bs ++ l))) else none
          | _ => none
        | _ => none
      else none
    | _ => none
  | .mm isMax xs =>
    match xs.map s.val with
    | .int k a :: r => (mmI isMax k a r).map fun n => (.int k n, s.ob)
    | _ => none
  | .mks own z _ x y =>
    match s.val x, s.val y with
    | .int _ n, .int _ c =>
      if 0 ≤ n ∧ n = c ∧ n ≤ 16777216 ∧ z.all (fun p => p.scal) ∧ ownL z = false then
        if own then
          if z.any PV.isNils then (mkO s nw (.box (List.replicate n.toNat z).flatten)).map fun (o, ob) => (.bsl o 0 n.toNat, ob)
          else (mkO s nw (.list z.length (List.replicate n.toNat z))).map fun (o, ob) => (.osl o 0 n.toNat, ob)
        else some (.slc (List.replicate n.toNat z), s.ob)
      else none
    | _, _ => none
  | .nilown esz => (mkO s nw (.list esz [])).map fun (o, ob) => (.osl o 0 0, ob)
  | .nilsl neg x =>
    match s.val x with
    | .nils => some (.bool (!neg), s.ob)
    | .slc (_ :: _) => some (.bool neg, s.ob)
    | _ => none
  | .isn k neg x => (isNil? k (s.val x)).map fun b => (.bool (if neg then !b else b), s.ob)
  | .balloc t u =>
    match nw with
    | none => some (.ref (s.ob.length + 1) 0, s.ob ++ [.buf u []] ++ [.tbox t [.nilp, .osl s.ob.length 0 0]])
    | some _ => none
  | .usd x =>
    match s.val x with
    | .osl o 0 n =>
      if forb.contains o then none else
      match s.ob[o]? with
      | some (.buf _ bs) => if n = bs.length then some (if n = 0 then .nilp else .lref o 0 0 n, s.ob) else none
      | _ => none
    | _ => none
  | .ust e x y =>
    match s.val x, s.val y with
    | .lref o 0 0 len, .int k n =>
      if forb.contains o then none else
      match s.ob[o]? with
      | some (.buf u bs) => if u = e ∧ bs.length = len ∧ n = len ∧ 0 < len ∧ len ≤ 16777216 ∧ k = .i64 then some (.str bs, s.ob) else none
      | _ => none
    | .nilp, .int k n => if n = 0 ∧ k = .i64 then some (.str [], s.ob) else none
    | _, _ => none
  | .arr op xs => (arrV op (xs.map s.val)).map fun v => (v, s.ob)
  | .alit z len parts =>
    (fillR s z.length (List.replicate len z) parts).bind fun rows =>
      if rows.flatten.all PV.cell? then (mkO s nw (.box rows.flatten)).map fun (o, ob) => (.asl o 0 rows.length rows.length, ob) else none
  | .call .. | .callv .. | .icall .. | .icallv .. | .icalli .. | .mop .. | .rcall .. | .ecall .. | .rcalli .. | .fail => none

/- what the operations on maps do -/
def mGet (k : Int) : List (Nat × Int × PV) → Option PV
  | [] => none
  | e :: r => if k = e.2.1 then some e.2.2 else mGet k r
def mSet (k : Int) (v : PV) : List (Nat × Int × PV) → List (Nat × Int × PV)
  | [] => []
  | e :: r => if k = e.2.1 then (e.1, k, v) :: r else e :: mSet k v r
def mDel (k : Int) : List (Nat × Int × PV) → List (Nat × Int × PV)
  | [] => []
  | e :: r => if k = e.2.1 then r else e :: mDel k r
/-- The entries that a walk has still to show. -/
def mLeft (seen : List Nat) (es : List (Nat × Int × PV)) : List (Nat × Int × PV) := es.filter fun e => !seen.contains e.1

abbrev MK := PV → List AObj → Prop
def mGetP (ok : Bool) (z : PV) (r : Option PV) (ob : List AObj) (K : MK) : Prop :=
  match r with
  | some p => K (if ok then .tup [p, .bool true] else p) ob
  | none => K (if ok then .tup [z, .bool false] else z) ob
def mGetO (ok : Bool) (z : PV) (k : Int) (a : Option AObj) (ob : List AObj) (K : MK) : Prop :=
  match a with
  | some (.map _ es) => mGetP ok z (mGet k es) ob K
  | _ => False
def mSetP (o c : Nat) (k : Int) (v : PV) (es : List (Nat × Int × PV)) (r : Option PV) (ob : List AObj) (K : MK) : Prop :=
  match r with
  | some _ => K .bot (ob.set o (.map c (mSet k v es)))
  | none => K .bot (ob.set o (.map (c + 1) (es ++ [(c, k, v)])))
def mSetO (o : Nat) (k : Int) (v : PV) (a : Option AObj) (ob : List AObj) (K : MK) : Prop :=
  match a with
  | some (.map c es) => mSetP o c k v es (mGet k es) ob K
  | _ => False
def mDelO (o : Nat) (k : Int) (a : Option AObj) (ob : List AObj) (K : MK) : Prop :=
  match a with
  | some (.map c es) => K (.tup []) (ob.set o (.map c (mDel k es)))
  | _ => False
def mLenO (a : Option AObj) (ob : List AObj) (K : MK) : Prop :=
  match a with
  | some (.map _ es) => K (.int .i64 es.length) ob
  | _ => False
def mRngO (o : Nat) (a : Option AObj) (ob : List AObj) (K : MK) : Prop :=
  match a with
  | some (.map c _) => K (.ref ob.length 0) (ob ++ [.iter o c [] c])
  | _ => False
def mNxtP (o m since : Nat) (seen : List Nat) (last c : Nat) (es : List (Nat × Int × PV)) (ob : List AObj) (K : MK) : Prop :=
  (∀ e ∈ es, e.1 < since) ∧ since ≤ last ∧ (mLeft seen es = [] → K (.tup [.bool false]) ob) ∧
    ∀ e ∈ mLeft seen es, K (.tup [.bool true, .int .i64 e.2.1, e.2.2]) (ob.set o (.iter m since (seen ++ [e.1]) c))
def mNxtM (o m since : Nat) (seen : List Nat) (last : Nat) (a : Option AObj) (ob : List AObj) (K : MK) : Prop :=
  match a with
  | some (.map c es) => mNxtP o m since seen last c es ob K
  | _ => False
def mNxtO (o : Nat) (a : Option AObj) (ob : List AObj) (K : MK) : Prop :=
  match a with
  | some (.iter m since seen last) => mNxtM o m since seen last ob[m]? ob K
  | _ => False
def mEntE (r : Option (Nat × Int × PV)) (ob : List AObj) (K : MK) : Prop :=
  match r with
  | some e => K (.tup [.int .i64 e.2.1, e.2.2]) ob
  | none => False
def mEntM (seen : List Nat) (last : Nat) (a : Option AObj) (ob : List AObj) (K : MK) : Prop :=
  match a with
  | some (.map c es) => c = last ∧ mEntE (seen.getLast?.bind fun b => es.find? fun e => e.1 == b) ob K
  | _ => False
def mEntO (a : Option AObj) (ob : List AObj) (K : MK) : Prop :=
  match a with
  | some (.iter m _ seen last) => mEntM seen last ob[m]? ob K
  | _ => False
/-- The cells that a slice shows. -/
def arrSrcO (a : Option AObj) (e off n : Nat) : Option (List PV) :=
  match a with
  | some (.box cs) => if off + n * e ≤ cs.length then some ((cs.drop off).take (n * e)) else none
  | _ => none
def arrSrc (ob : List AObj) (e : Nat) : PV → Option (List PV)
  | .nils => some []
  | .asl o off n _ => if n = 0 then some [] else arrSrcO ob[o]? e off n
  | .slc rows => if rowsOk e rows = true then some rows.flatten else none
  | _ => none
def arrLen : PV → Nat
  | .asl _ _ n _ => n
  | .slc rows => rows.length
  | _ => 0
/-- A slice that grows: a new box, of whatever room. -/
def aGrow (n m : Nat) (z olds news : List PV) (ob : List AObj) (K : MK) : Prop :=
  0 < m ∧ n + m ≤ 16777216 ∧ ∀ c, n + m ≤ c → c ≤ 9223372036854775807 → K (.asl ob.length 0 (n + m) c) (ob ++ [.box (olds ++ (news ++ (List.replicate (c - (n + m)) z).flatten))])
def aGrowO (n m : Nat) (z : List PV) (olds : Option (List PV)) (news : List PV) (ob : List AObj) (K : MK) : Prop :=
  match olds with
  | some xs => aGrow n m z xs news ob K
  | none => False
def aPutO (a : Option AObj) (o at_ : Nat) (ys : List PV) (r : PV) (ob : List AObj) (K : MK) : Prop :=
  match a with
  | some (.box cs) => at_ + ys.length ≤ cs.length ∧ K r (ob.set o (.box (setAt cs at_ ys)))
  | _ => False
def aAppY (e : Nat) (z : List PV) (x : PV) (m : Nat) (ys : Option (List PV)) (ob : List AObj) (K : MK) : Prop :=
  match ys with
  | some ys =>
    match x with
    | .asl o off n c => if m = 0 then K (.asl o off n c) ob else if n + m ≤ c then aPutO ob[o]? o (off + n * e) ys (.asl o off (n + m) c) ob K else aGrowO n m z (arrSrc ob e (.asl o off n c)) ys ob K
    | .nils => if m = 0 then K .nils ob else aGrow 0 m z [] ys ob K
    | _ => False
  | none => False
def aApzY (e : Nat) (z : List PV) (x : PV) (k : Int) (ob : List AObj) (K : MK) : Prop :=
  match x with
  | .asl o off n c => 0 < k ∧ c < n + k.toNat ∧ aGrowO n k.toNat z (arrSrc ob e (.asl o off n c)) (List.replicate k.toNat z).flatten ob K
  | .nils => 0 < k ∧ aGrow 0 k.toNat z [] (List.replicate k.toNat z).flatten ob K
  | _ => False
def aCpyY (e : Nat) (d : PV) (m : Nat) (ys : Option (List PV)) (ob : List AObj) (K : MK) : Prop :=
  match d, ys with
  | .asl o off n _, some ys => if min m n = 0 then K (.int .i64 0) ob else aPutO ob[o]? o off (ys.take (min m n * e)) (.int .i64 ((min m n : Nat) : Int)) ob K
  | _, _ => False
def aClrX (z : List PV) (x : PV) (ob : List AObj) (K : MK) : Prop :=
  match x with
  | .asl o off n _ => if n = 0 then K (.tup []) ob else aPutO ob[o]? o off (List.replicate n z).flatten (.tup []) ob K
  | _ => False

def MStep (m : MOp) (ps : List PV) (ob : List AObj) (K : MK) : Prop :=
  match m, ps with
  | .mk, [] => K (.mp ob.length) (ob ++ [.map 0 []])
  | .get ok z, [.mp o, .int .i64 k] => mGetO ok z k ob[o]? ob K
  | .set, [.mp o, .int .i64 k, v] => mSetO o k v ob[o]? ob K
  | .del, [.mp o, .int .i64 k] => mDelO o k ob[o]? ob K
  | .len, [.mp o] => mLenO ob[o]? ob K
  | .rng, [.mp o] => mRngO o ob[o]? ob K
  | .nxt, [.ref o 0] => mNxtO o ob[o]? ob K
  | .ent, [.ref o 0] => mEntO ob[o]? ob K
  | .aapp e z, [x, y] => aAppY e z x (arrLen y) (arrSrc ob e y) ob K
  | .aapz e z, [x, .int .i64 k] => aApzY e z x k ob K
  | .acpy e, [x, y] => aCpyY e x (arrLen y) (arrSrc ob e y) ob K
  | .aclr z, [x] => aClrX z x ob K
  | _, _ => False

section
variable {ob : List AObj} {K K' : MK} (h : ∀ r ob, K r ob → K' r ob)
include h
theorem mGetO_mono {ok z k a} (hk : mGetO ok z k a ob K) : mGetO ok z k a ob K' := by
  unfold mGetO at *
  split at hk
  · unfold mGetP at *
    split at hk <;> exact h _ _ hk
  · exact hk
theorem mSetO_mono {o k v a} (hk : mSetO o k v a ob K) : mSetO o k v a ob K' := by
  unfold mSetO at *
  split at hk
  · unfold mSetP at *
    split at hk <;> exact h _ _ hk
  · exact hk
theorem mDelO_mono {o k a} (hk : mDelO o k a ob K) : mDelO o k a ob K' := by
  unfold mDelO at *
  split at hk
  · exact h _ _ hk
  · exact hk
theorem mLenO_mono {a} (hk : mLenO a ob K) : mLenO a ob K' := by
  unfold mLenO at *
  split at hk
  · exact h _ _ hk
  · exact hk
theorem mRngO_mono {o a} (hk : mRngO o a ob K) : mRngO o a ob K' := by
  unfold mRngO at *
  split at hk
  · exact h _ _ hk
  · exact hk
theorem mNxtO_mono {o a} (hk : mNxtO o a ob K) : mNxtO o a ob K' := by
  unfold mNxtO at *
  split at hk
  · unfold mNxtM at *
    split at hk
    · exact ⟨hk.1, hk.2.1, fun e => h _ _ (hk.2.2.1 e), fun e he => h _ _ (hk.2.2.2 e he)⟩
    · exact hk
  · exact hk
theorem mEntO_mono {a} (hk : mEntO a ob K) : mEntO a ob K' := by
  unfold mEntO at *
  split at hk
  · unfold mEntM at *
    split at hk
    · refine ⟨hk.1, ?_⟩
      have h2 := hk.2
      unfold mEntE at h2 ⊢
      split at h2
      · exact h _ _ h2
      · exact h2
    · exact hk
  · exact hk
theorem aGrow_mono {n m z xs ys} (hk : aGrow n m z xs ys ob K) : aGrow n m z xs ys ob K' := ⟨hk.1, hk.2.1, fun c h1 h2 => h _ _ (hk.2.2 c h1 h2)⟩
theorem aGrowO_mono {n m z xs ys} (hk : aGrowO n m z xs ys ob K) : aGrowO n m z xs ys ob K' := by
  unfold aGrowO at *
  split at hk
  · exact aGrow_mono h hk
  · exact hk
theorem aPutO_mono {a o q ys r} (hk : aPutO a o q ys r ob K) : aPutO a o q ys r ob K' := by
  unfold aPutO at *
  split at hk
  · exact ⟨hk.1, h _ _ hk.2⟩
  · exact hk
theorem aAppY_mono {e z x m ys} (hk : aAppY e z x m ys ob K) : aAppY e z x m ys ob K' := by
  unfold aAppY at *
  split at hk
  · split at hk
    · split
      · rename_i h0; rw [if_pos h0] at hk; exact h _ _ hk
      · rename_i h0
        rw [if_neg h0] at hk
        split
        · rename_i h1; rw [if_pos h1] at hk; exact aPutO_mono h hk
        · rename_i h1; rw [if_neg h1] at hk; exact aGrowO_mono h hk
    · split
      · rename_i h0; rw [if_pos h0] at hk; exact h _ _ hk
      · rename_i h0; rw [if_neg h0] at hk; exact aGrow_mono h hk
    · exact hk.elim
  · exact hk
theorem aApzY_mono {e z x k} (hk : aApzY e z x k ob K) : aApzY e z x k ob K' := by
  unfold aApzY at *
  split at hk
  · exact ⟨hk.1, hk.2.1, aGrowO_mono h hk.2.2⟩
  · exact ⟨hk.1, aGrow_mono h hk.2⟩
  · exact hk
theorem aCpyY_mono {e d m ys} (hk : aCpyY e d m ys ob K) : aCpyY e d m ys ob K' := by
  unfold aCpyY at *
  split at hk
  · split
    · rename_i h0; rw [if_pos h0] at hk; exact h _ _ hk
    · rename_i h0; rw [if_neg h0] at hk; exact aPutO_mono h hk
  · exact hk
theorem aClrX_mono {z x} (hk : aClrX z x ob K) : aClrX z x ob K' := by
  unfold aClrX at *
  split at hk
  · split
    · rename_i h0; rw [if_pos h0] at hk; exact h _ _ hk
    · rename_i h0; rw [if_neg h0] at hk; exact aPutO_mono h hk
  · exact hk
theorem MStep_mono {m : MOp} {ps : List PV} (hk : MStep m ps ob K) : MStep m ps ob K' := by
  unfold MStep at hk ⊢
  split at hk
  · exact h _ _ hk
  · exact mGetO_mono h hk
  · exact mSetO_mono h hk
  · exact mDelO_mono h hk
  · exact mLenO_mono h hk
  · exact mRngO_mono h hk
  · exact mNxtO_mono h hk
  · exact mEntO_mono h hk
  · exact aAppY_mono h hk
  · exact aApzY_mono h hk
  · exact aCpyY_mono h hk
  · exact aClrX_mono h hk
  · exact hk.elim
end

theorem aGrow_ex {n m z xs ys} {ob : List AObj} {K : MK} (hk : aGrow n m z xs ys ob K) : ∃ r ob', K r ob' := ⟨_, _, hk.2.2 (n + m) (Nat.le_refl _) (by have := hk.2.1; omega)⟩
theorem aGrowO_ex {n m z xs ys} {ob : List AObj} {K : MK} (hk : aGrowO n m z xs ys ob K) : ∃ r ob', K r ob' := by
  unfold aGrowO at hk
  split at hk
  · exact aGrow_ex hk
  · exact hk.elim
theorem aPutO_ex {a o q ys r} {ob : List AObj} {K : MK} (hk : aPutO a o q ys r ob K) : ∃ r ob', K r ob' := by
  unfold aPutO at hk
  split at hk
  · exact ⟨_, _, hk.2⟩
  · exact hk.elim
theorem aAppY_ex {e z x m ys} {ob : List AObj} {K : MK} (hk : aAppY e z x m ys ob K) : ∃ r ob', K r ob' := by
  unfold aAppY at hk
  split at hk
  · split at hk
    · split at hk
      · exact ⟨_, _, hk⟩
      · split at hk
        · exact aPutO_ex hk
        · exact aGrowO_ex hk
    · split at hk
      · exact ⟨_, _, hk⟩
      · exact aGrow_ex hk
    · exact hk.elim
  · exact hk.elim
theorem aApzY_ex {e z x k} {ob : List AObj} {K : MK} (hk : aApzY e z x k ob K) : ∃ r ob', K r ob' := by
  unfold aApzY at hk
  split at hk
  · exact aGrowO_ex hk.2.2
  · exact aGrow_ex hk.2
  · exact hk.elim
theorem aCpyY_ex {e d m ys} {ob : List AObj} {K : MK} (hk : aCpyY e d m ys ob K) : ∃ r ob', K r ob' := by
  unfold aCpyY at hk
  split at hk
  · split at hk
    · exact ⟨_, _, hk⟩
    · exact aPutO_ex hk
  · exact hk.elim
theorem aClrX_ex {z x} {ob : List AObj} {K : MK} (hk : aClrX z x ob K) : ∃ r ob', K r ob' := by
  unfold aClrX at hk
  split at hk
  · split at hk
    · exact ⟨_, _, hk⟩
    · exact aPutO_ex hk
  · exact hk.elim
theorem MStep_ex {m : MOp} {ps : List PV} {ob : List AObj} {K : MK} (hk : MStep m ps ob K) : ∃ r ob', K r ob' := by
  unfold MStep at hk
  split at hk
  · exact ⟨_, _, hk⟩
  · unfold mGetO at hk
    split at hk
    · unfold mGetP at hk
      split at hk <;> exact ⟨_, _, hk⟩
    · exact hk.elim
  · unfold mSetO at hk
    split at hk
    · unfold mSetP at hk
      split at hk <;> exact ⟨_, _, hk⟩
    · exact hk.elim
  · unfold mDelO at hk
    split at hk
    · exact ⟨_, _, hk⟩
    · exact hk.elim
  · unfold mLenO at hk
    split at hk
    · exact ⟨_, _, hk⟩
    · exact hk.elim
  · unfold mRngO at hk
    split at hk
    · exact ⟨_, _, hk⟩
    · exact hk.elim
  · unfold mNxtO at hk
    split at hk
    · unfold mNxtM at hk
      split at hk
      · rename_i c es _
        cases he : mLeft _ es with
        | nil => exact ⟨_, _, hk.2.2.1 he⟩
        | cons e r => exact ⟨_, _, hk.2.2.2 e (by rw [he]; simp)⟩
      · exact hk.elim
    · exact hk.elim
  · unfold mEntO at hk
    split at hk
    · unfold mEntM at hk
      split at hk
      · have h2 := hk.2
        unfold mEntE at h2
        split at h2
        · exact ⟨_, _, h2⟩
        · exact h2.elim
      · exact hk.elim
    · exact hk.elim
  · exact aAppY_ex hk
  · exact aApzY_ex hk
  · exact aCpyY_ex hk
  · exact aClrX_ex hk
  · exact hk.elim

end Go.Proofs.YtdgpiobmncohjaaGreat.Aw
