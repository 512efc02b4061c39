/-
  That the abstract operations tell the truth: comparisons of structs, conversions, slicings, indexes, lengths.
-/
import Derived.Test.YtdgpiobmncohjaaGreatAwSnd
namespace Go.Proofs.YtdgpiobmncohjaaGreat.Aw
open Go.RowKit

section
variable {P : Program} {c : Ctx} {F : Nat → Prop} {l : Locs} {w : World} {s : St} {a : Act}

theorem eqb_sound {forb : List Nat} {nw : Option Nat} {neg : Bool} {t : TypeId} {x y : Operand} {pv : PV} {ob' : List AObj} (hu : P.underlying t = some .bool) (hs : SlotsOk w F l s a) (he : ev forb nw s (.eqb neg (opx x) (opx y)) = some (pv, ob')) :
    ∃ v, ob' = s.ob ∧ (do eqGuard (if neg then .neq else .eql) t x y (a.eval x) (a.eval y); binOp (if neg then .neq else .eql) t (a.eval x) (a.eval y)).run P w = .ok v w ∧ R1 w F l pv v := by
  have hx := opx_sound hs x
  have hy := opx_sound hs y
  simp only [ev] at he
  split at he
  · rename_i m n h1 h2
    simp only [Option.some.injEq, Prod.mk.injEq] at he
    obtain ⟨rfl, rfl⟩ := he
    rw [h1] at hx; rw [h2] at hy
    rw [hx.bool_inv, hy.bool_inv]
    cases neg
    · exact ⟨.bool (m == n), rfl, by simp [eqGuard, run_eql_bool w t m n hu], .bool _⟩
    · exact ⟨.bool (!(m == n)), rfl, by simp [eqGuard, run_neq_bool w t m n hu], .bool _⟩
  · cases he

theorem nslice (w : World) (t e : TypeId) (ad : Option Addr) (n c n' c' : Nat) (h : P.underlying t = some (.slice e)) :
    (binOp .neq t (.slice ad n c) (.slice none n' c')).run P w = .ok (.bool (!ad.isNone)) w := by
  have := Lib.run_eql_slice_nil (P := P) w t e ad n c n' c' h
  simp only [binOp, Sem.run_bind, Result.andThen] at this ⊢
  cases hr : (Op.equal t (.slice ad n c) (.slice none n' c')).run P w with
  | ok b w' => simp [hr] at this ⊢; simp [this]
  | halt x w' => simp [hr] at this

theorem nilsl_sound {forb : List Nat} {nw : Option Nat} {neg : Bool} {t e : TypeId} {x : Operand} {pv : PV} {ob' : List AObj} (hu : P.underlying t = some (.slice e)) (hs : SlotsOk w F l s a) (he : ev forb nw s (.nilsl neg (opx x)) = some (pv, ob')) :
    ∃ v, ob' = s.ob ∧ (do eqGuard (if neg then .neq else .eql) t x (.const (.slice none 0 0)) (a.eval x) (.slice none 0 0); binOp (if neg then .neq else .eql) t (a.eval x) (.slice none 0 0)).run P w = .ok v w ∧ R1 w F l pv v := by
  have hx := opx_sound hs x
  simp only [ev] at he
  split at he
  · rename_i h1
    simp only [Option.some.injEq, Prod.mk.injEq] at he
    obtain ⟨rfl, rfl⟩ := he
    rw [h1] at hx
    generalize a.eval x = u at hx
    cases hx
    refine ⟨.bool (!neg), rfl, ?_, .bool _⟩
    cases neg
    · have := Lib.run_eql_slice_nil (P := P) w t e none 0 0 0 0 hu
      simpa [eqGuard] using this
    · have := nslice (P := P) w t e none 0 0 0 0 hu
      simpa [eqGuard] using this
  · rename_i r rs h1
    simp only [Option.some.injEq, Prod.mk.injEq] at he
    obtain ⟨rfl, rfl⟩ := he
    rw [h1] at hx
    generalize a.eval x = u at hx
    cases hx
    rename_i b off cap cvv esz _ _ _ _ _ _ _
    refine ⟨.bool neg, rfl, ?_, .bool _⟩
    cases neg
    · have := Lib.run_eql_slice_nil (P := P) w t e (some ⟨b, off, none⟩) (r :: rs).length cap 0 0 hu
      simpa [eqGuard] using this
    · have := nslice (P := P) w t e (some ⟨b, off, none⟩) (r :: rs).length cap 0 0 hu
      simpa [eqGuard] using this
  · cases he

theorem eq_run {t : TypeId} {d : TypeDesc} (hu : P.underlying t = some d) (v z : Value) (r : Result Bool) (h : ((do match d, v, z with
    | .pointer _, .pointer none, .pointer b => pure b.isNone
    | .pointer _, .pointer _, .pointer none => pure false
    | .interface _, .nilIface, .nilIface => pure true
    | .interface _, .iface _ _, .nilIface => pure false
    | _, _, _ => stuck "" : Sem Bool)).run P w = r) (hk : (∃ e p, d = .pointer e ∧ v = .pointer p ∧ z = .pointer none) ∨ (∃ ms, d = .interface ms ∧ (v = .nilIface ∨ ∃ u x, v = .iface u x) ∧ z = .nilIface)) :
    (Op.equal t v z).run P w = r := by
  show (Op.equalIn (9999 + 1) t v z).run P w = r
  unfold Op.equalIn
  rcases hk with ⟨e, p, rfl, rfl, rfl⟩ | ⟨ms, rfl, rfl | ⟨u, x, rfl⟩, rfl⟩
  · cases p <;> simp only [Sem.run_bind, run_underlying hu, Result.andThen_ok] <;> exact h
  · simp only [Sem.run_bind, run_underlying hu, Result.andThen_ok]; exact h
  · simp only [Sem.run_bind, run_underlying hu, Result.andThen_ok]; exact h
theorem bin_eq {t : TypeId} {v z : Value} {b : Bool} (neg : Bool) (he : (Op.equal t v z).run P w = .ok b w) (hv : (∃ p, v = .pointer p) ∨ v = .nilIface ∨ (∃ u x, v = .iface u x)) (hz : z = .pointer none ∨ z = .nilIface) :
    (binOp (if neg then .neq else .eql) t v z).run P w = .ok (.bool (if neg then !b else b)) w := by
  rcases hv with ⟨p, rfl⟩ | rfl | ⟨u, x, rfl⟩ <;> rcases hz with rfl | rfl <;> cases neg <;> simp only [binOp, Sem.run_bind, he, Result.andThen_ok, Sem.run_pure, if_true, if_false, Bool.false_eq_true]
/-- Whether a pointer, an interface's value, a map is nil. -/
theorem isn_run {k : NK} {t : TypeId} {x : Operand} {v z : Value} {p : PV} {b : Bool} (neg : Bool) (hv : R1 w F l p v) (hb : isNil? k p = some b)
    (hk : (∃ e, k = .p ∧ P.underlying t = some (.pointer e) ∧ z = .pointer none) ∨ (∃ ms, k = .i ∧ P.underlying t = some (.interface ms) ∧ z = .nilIface) ∨ (∃ a e, k = .m ∧ P.underlying t = some (.map a e) ∧ z = .map none)) :
    (do eqGuard (if neg then .neq else .eql) t x (.const z) v z; binOp (if neg then .neq else .eql) t v z).run P w = .ok (.bool (if neg then !b else b)) w := by
  have hg : (eqGuard (if neg then .neq else .eql) t x (.const z) v z).run P w = .ok () w := by
    rcases hk with ⟨e, rfl, hu, rfl⟩ | ⟨ms, rfl, hu, rfl⟩ | ⟨a, e, rfl, hu, rfl⟩
    · cases v <;> cases neg <;> rfl
    · cases x <;> cases v <;> cases neg <;> rfl
    · cases v <;> cases neg <;> rfl
  rw [Sem.run_bind, hg, Result.andThen_ok]
  · rcases hk with ⟨e, rfl, hu, rfl⟩ | ⟨ms, rfl, hu, rfl⟩ | ⟨a, e, rfl, hu, rfl⟩
    · have : ∃ q, v = .pointer q ∧ q.isNone = b := by
        cases p <;> simp [isNil?] at hb <;> subst hb
        · cases hv; exact ⟨_, rfl, rfl⟩
        · cases hv with
          | lref _ _ _ h _ => obtain ⟨a, rfl⟩ := h; exact ⟨_, rfl, rfl⟩
        · cases hv; exact ⟨_, rfl, rfl⟩
        · cases hv; exact ⟨_, rfl, rfl⟩
      obtain ⟨q, rfl, rfl⟩ := this
      refine bin_eq neg (eq_run hu _ _ _ ?_ (.inl ⟨e, q, rfl, rfl, rfl⟩)) (.inl ⟨_, rfl⟩) (.inl rfl)
      cases q <;> rfl
    · have : (v = .nilIface ∧ b = true) ∨ ((∃ u x, v = .iface u x) ∧ b = false) := by
        cases p <;> simp [isNil?] at hb <;> subst hb
        · cases hv; exact .inr ⟨⟨_, _, rfl⟩, rfl⟩
        · cases hv; exact .inl ⟨rfl, rfl⟩
      rcases this with ⟨rfl, rfl⟩ | ⟨⟨u, y, rfl⟩, rfl⟩
      · exact bin_eq neg (eq_run hu _ _ _ rfl (.inr ⟨ms, rfl, .inl rfl, rfl⟩)) (.inr (.inl rfl)) (.inr rfl)
      · exact bin_eq neg (eq_run hu _ _ _ rfl (.inr ⟨ms, rfl, .inr ⟨_, _, rfl⟩, rfl⟩)) (.inr (.inr ⟨_, _, rfl⟩)) (.inr rfl)
    · have : ∃ q, v = .map q ∧ q.isNone = b := by
        cases p <;> simp [isNil?] at hb <;> subst hb
        · cases hv; exact ⟨_, rfl, rfl⟩
        · cases hv; exact ⟨_, rfl, rfl⟩
      obtain ⟨q, rfl, rfl⟩ := this
      cases neg
      · exact run_eql_map_nil w t a e q hu
      · have := run_eql_map_nil (P := P) w t a e q hu
        simp only [binOp, Sem.run_bind, Result.andThen] at this ⊢
        cases hr : (Op.equal t (.map q) (.map none)).run P w with
        | ok b w' => simp [hr] at this ⊢; simp [this]
        | halt x w' => simp [hr] at this

theorem un_sound {forb : List Nat} {nw : Option Nat} {op : UnOp} {x : Operand} {pv : PV} {ob' : List AObj} (hs : SlotsOk w F l s a) (he : ev forb nw s (.un op (opx x)) = some (pv, ob')) :
    ∃ v, ob' = s.ob ∧ (Op.unary op (a.eval x)).run P w = .ok v w ∧ R1 w F l pv v := by
  have hx := opx_sound hs x
  simp only [ev, Option.map_eq_some_iff, Prod.mk.injEq] at he
  obtain ⟨v, hv, rfl, rfl⟩ := he
  unfold unV at hv
  split at hv
  · rename_i b h1
    simp only [Option.some.injEq] at hv; subst hv
    rw [h1] at hx
    exact ⟨.bool (!b), rfl, by simp [hx.bool_inv, Op.unary], .bool _⟩
  · rename_i k n h1
    simp only [Option.some.injEq] at hv; subst hv
    rw [h1] at hx
    exact ⟨.int k (k.wrap (0 - n)), rfl, by simp [hx.int_inv, Op.unary, Op.intArith], .int _ _⟩
  · rename_i k n h1
    simp only [Option.some.injEq] at hv; subst hv
    rw [h1] at hx
    exact ⟨.int k (k.wrap (BitVec.ofInt k.bits (if k.signed then -1 else k.max) ^^^ BitVec.ofInt k.bits n).toNat), rfl, by simp [hx.int_inv, Op.unary, Op.intBits], .int _ _⟩
  · cases hv

/- convert -/
def cConv (P : Program) (own : Bool) (src dst : TypeId) (x : Operand) : Option AO :=
  match P.underlying src, P.underlying dst with
  | some (.int _), some (.int k) => some (.conv k (opx x))
  | some (.slice e), some .string => match P.underlying e with | some (.int .u8) => some (.b2s (opx x)) | _ => none
  | some .string, some (.slice e) => match P.underlying e with | some (.int .u8) => some (.s2b own (opx x)) | _ => none
  | _, _ => none

theorem conv_sound {forb : List Nat} {nw : Option Nat} {src dst : TypeId} {k q : IntKind} {x : Operand} {pv : PV} {ob' : List AObj} (h1 : P.underlying src = some (.int q)) (h2 : P.underlying dst = some (.int k)) (hs : SlotsOk w F l s a) (he : ev forb nw s (.conv k (opx x)) = some (pv, ob')) :
    ∃ v, ob' = s.ob ∧ (convert src dst (a.eval x)).run P w = .ok v w ∧ R1 w F l pv v := by
  have hx := opx_sound hs x
  simp only [ev] at he
  split at he
  · rename_i k' n h3
    simp only [Option.some.injEq, Prod.mk.injEq] at he
    obtain ⟨rfl, rfl⟩ := he
    rw [h3] at hx
    exact ⟨.int k (k.wrap n), rfl, by simp [hx.int_inv, convert, run_underlying h1, run_underlying h2, Conv.intToInt], .int _ _⟩
  · cases he

theorem bytesOf_spec : ∀ (rows : List (List PV)) (b : List UInt8) (cv : List Value), bytesOf? rows = some b → RL w F l rows.flatten cv → ∃ ns : List Int, cv = ns.map (Value.int .u8) ∧ b = ns.map (fun n => UInt8.ofNat n.toNat) ∧ rows.length = ns.length
  | [], b, cv, h, hr => by
    simp only [bytesOf?, Option.some.injEq] at h; subst h
    have := hr.nil_inv; subst this
    exact ⟨[], rfl, rfl, rfl⟩
  | r :: rs, b, cv, h, hr => by
    simp only [bytesOf?] at h
    split at h
    · rename_i b0 bs hb hbs
      simp only [Option.some.injEq] at h; subst h
      unfold byteOf? at hb
      split at hb
      · rename_i n
        simp only [Option.some.injEq] at hb; subst hb
        rw [List.flatten_cons, List.singleton_append] at hr
        obtain ⟨v, vs, rfl, hv, hvs⟩ := hr.cons_inv
        obtain ⟨ns, e1, e2, e3⟩ := bytesOf_spec rs bs vs hbs hvs
        exact ⟨n :: ns, by rw [hv.int_inv, e1]; rfl, by rw [e2]; rfl, by simp [e3]⟩
      · cases hb
    · cases h

theorem foldl_push : ∀ (ns : List Int) (r : ByteArray), ns.foldl (fun r n => r.push (UInt8.ofNat n.toNat)) r = ⟨r.data ++ (ns.map fun n => UInt8.ofNat n.toNat).toArray⟩
  | [], r => by simp
  | n :: ns, r => by
    simp only [List.foldl_cons, List.map_cons]
    rw [foldl_push ns]
    simp [ByteArray.push]

theorem b2s_sound {forb : List Nat} {nw : Option Nat} {src dst e : TypeId} {x : Operand} {pv : PV} {ob' : List AObj} (h1 : P.underlying src = some (.slice e)) (h2 : P.underlying dst = some .string) (h3 : P.underlying e = some (.int .u8)) (R : RepW c F l s.ob w) (hs : SlotsOk w F l s a) (he : ev forb nw s (.b2s (opx x)) = some (pv, ob')) :
    ∃ v, ob' = s.ob ∧ (convert src dst (a.eval x)).run P w = .ok v w ∧ R1 w F l pv v := by
  have hx := opx_sound hs x
  simp only [ev, Option.map_eq_some_iff, Prod.mk.injEq, Option.bind_eq_some_iff] at he
  obtain ⟨b, ⟨rows, hrows, hb⟩, rfl, rfl⟩ := he
  obtain ⟨ad, cap, hv, hcap, hcells⟩ := rowsOf_sound R hx hrows
  have hstep : (convert src dst (a.eval x)).run P w = (Conv.bytesToString (a.eval x)).run P w := by
    rw [hv]; simp [convert, run_underlying h1, run_underlying h2, run_underlying h3]
  refine ⟨.string ⟨b.toArray⟩, rfl, ?_, .str _⟩
  rw [hstep, hv]
  rcases hcells with rfl | ⟨blk, off, cv, esz, rfl, hr, hrl, hcell, hone⟩
  · simp only [bytesOf?, Option.some.injEq] at hb; subst hb
    cases ad with
    | none => simp [Conv.bytesToString]; rfl
    | some ad =>
      exact run_bytesToString (P := P) w ad 0 cap [] (by simp [loadCells, loadCellsFrom])
  · obtain ⟨ns, e1, e2, e3⟩ := bytesOf_spec rows b cv hb hrl
    have hl : cv.length = rows.length := by rw [e1, e3]; simp
    have := run_bytesToString (P := P) w ⟨blk, off, none⟩ rows.length cap ns (by rw [run_loadCells_ptr hl hcell, e1])
    rw [this, foldl_push, e2]
    simp

/- struct equality -/
def scalD : TypeDesc → Option CK
  | .int _ => some .i
  | .bool => some .b
  | .string => some .s
  | _ => none

/-- The fields of a struct one behind the other: the kinds of their cells. -/
def eqFs (P : Program) (g : TypeId → Option (List CK)) : List CK → List Field → Option (List CK)
  | ks, [] => some ks
  | ks, f :: fs =>
    if f.offset = ks.length ∧ f.name ≠ "_" then
      match g f.type with
      | some ms => if (P.info? f.type).map (·.size) = some ms.length then eqFs P g (ks ++ ms) fs else none
      | none => none
    else none

/-- A type of scalars, or a struct of such: the kinds of its cells. -/
def eqN (P : Program) : Nat → TypeId → Option (List CK)
  | 0, _ => none
  | k + 1, t =>
    match P.underlying t with
    | some (.struct fs) => if P.stoodInHeld t then none else eqFs P (eqN P k) [] fs.toList
    | some d => (scalD d).map fun k => [k]
    | none => none

def cEqs (P : Program) (neg : Bool) (t : TypeId) (x y : Operand) : Option AO :=
  match P.underlying t with
  | some (.struct _) => if P.eqGuardType P.depth t then none else (eqN P 8 t).map fun ks => .eqs neg ks (opx x) (opx y)
  | _ => none

theorem scal_eq {d : Nat} {t : TypeId} {dd : TypeDesc} {ck : CK} {p q : PV} {x y : Value} {b : Bool} (hu : P.underlying t = some dd) (hd : scalD dd = some ck) (hp : R1 w F l p x) (hq : R1 w F l q y) (he : eqC ck p q = some b) :
    (Op.equalIn (d + 1) t x y).run P w = .ok b w := by
  unfold eqC at he
  split at he
  · split at he
    · rename_i k m k' n hk
      simp only [Option.some.injEq] at he; subst he; subst hk
      rw [hp.int_inv, hq.int_inv]
      cases dd <;> simp [scalD] at hd
      simp [Op.equalIn, run_underlying hu]
    · cases he
  · simp only [Option.some.injEq] at he; subst he
    rw [hp.bool_inv, hq.bool_inv]
    cases dd <;> simp [scalD] at hd
    simp [Op.equalIn, run_underlying hu]
  · rename_i m n
    simp only [Option.some.injEq] at he; subst he
    rw [hp.str_inv, hq.str_inv]
    cases dd <;> simp [scalD] at hd
    simp [Op.equalIn, run_underlying hu, beq_toListBytes, ba_toList]
  · cases he

theorem eqCs_split : ∀ (ks ms : List CK) (ps qs : List PV) (b : Bool), eqCs (ks ++ ms) ps qs = some b →
    ∃ b1 b2, eqCs ks (ps.take ks.length) (qs.take ks.length) = some b1 ∧ eqCs ms (ps.drop ks.length) (qs.drop ks.length) = some b2 ∧ b = (b1 && b2)
  | [], ms, ps, qs, b, h => ⟨true, b, by simp [eqCs], by simpa using h, by simp⟩
  | k :: ks, ms, [], qs, b, h => by cases qs <;> simp [eqCs] at h
  | k :: ks, ms, p :: ps, [], b, h => by simp [eqCs] at h
  | k :: ks, ms, p :: ps, q :: qs, b, h => by
    simp only [List.cons_append, eqCs] at h
    split at h
    · rename_i x y hx hy
      simp only [Option.some.injEq] at h; subst h
      obtain ⟨b1, b2, h1, h2, rfl⟩ := eqCs_split ks ms ps qs y hy
      exact ⟨x && b1, b2, by simp [eqCs, hx, h1], by simpa using h2, by simp [Bool.and_assoc]⟩
    · cases h

theorem eqCs_len : ∀ (ks : List CK) (ps qs : List PV) (b : Bool), eqCs ks ps qs = some b → ps.length = ks.length ∧ qs.length = ks.length
  | [], [], [], _, _ => ⟨rfl, rfl⟩
  | [], _ :: _, _, _, h => by simp [eqCs] at h
  | [], [], _ :: _, _, h => by simp [eqCs] at h
  | _ :: _, [], qs, _, h => by cases qs <;> simp [eqCs] at h
  | _ :: _, _ :: _, [], _, h => by simp [eqCs] at h
  | k :: ks, p :: ps, q :: qs, b, h => by
    simp only [eqCs] at h
    split at h
    · rename_i x y hx hy
      have := eqCs_len ks ps qs y hy
      simp [this.1, this.2]
    · cases h

theorem eqFs_ext (g : TypeId → Option (List CK)) : ∀ (fs : List Field) (ks : List CK) (ns : List CK), eqFs P g ks fs = some ns → ∃ ms, ns = ks ++ ms
  | [], ks, ns, h => by simp only [eqFs, Option.some.injEq] at h; exact ⟨[], by simp [h]⟩
  | f :: fs, ks, ns, h => by
    simp only [eqFs] at h
    split at h
    · split at h
      · split at h
        · obtain ⟨ms, rfl⟩ := eqFs_ext g fs _ _ h
          exact ⟨_, List.append_assoc _ _ _⟩
        · cases h
      · cases h
    · cases h

/-- The value of a type whose cells these are. -/
def valOf (P : Program) (t : TypeId) (xs : List Value) : Value :=
  match P.underlying t with
  | some (.struct _) => .agg xs.toArray
  | _ => xs.headD undef

theorem part_run {t : TypeId} {g : TypeId → Option (List CK)} {k : Nat} {ms : List CK} (hg : eqN P k t = some ms) (hsz : (P.info? t).map (·.size) = some ms.length) (xs : List Value) (off : Nat) (hle : off + ms.length ≤ xs.length) :
    (part t xs.toArray off).run P w = .ok (valOf P t ((xs.drop off).take ms.length)) w := by
  cases hi : P.info? t with
  | none => simp [hi] at hsz
  | some i =>
    simp only [hi, Option.map_some, Option.some.injEq] at hsz
    cases k with
    | zero => simp [eqN] at hg
    | succ k =>
      simp only [eqN] at hg
      split at hg
      · rename_i fs hu
        simp only [part, Sem.run_bind, isAgg_run hu, isAggD, Result.andThen_ok, sizeOf_run hi, valOf, hu, hsz, if_true, Sem.run_pure]
        congr 2
        apply Array.ext'
        simp
      · rename_i d hd hu
        cases hsd : scalD d with
        | none => simp [hsd] at hg
        | some ck =>
          simp only [hsd, Option.map_some, Option.some.injEq] at hg
          subst hg
          have hagg : isAggD d = false := by cases d <;> simp_all [isAggD, scalD]
          simp only [List.length_singleton] at hle
          have hlt : off < xs.length := by omega
          have hv : valOf P t ((xs.drop off).take [ck].length) = xs[off] := by
            unfold valOf
            rw [hu]
            cases d <;> simp [scalD] at hsd <;> simp [List.take_one, List.head?_drop, hlt]
          rw [hv]
          simp [part, isAgg_run hu, hagg, hlt]
      · cases hg

theorem eqN_sound : ∀ (k : Nat) (t : TypeId) (ks : List CK), eqN P k t = some ks → ∀ (d : Nat), k ≤ d + 1 → ∀ (ps qs : List PV) (xs ys : List Value) (b : Bool), RL w F l ps xs → RL w F l qs ys → eqCs ks ps qs = some b →
    (Op.equalIn (d + 1) t (valOf P t xs) (valOf P t ys)).run P w = .ok b w
  | 0, t, ks, h, _, _, _, _, _, _, _, _, _, _ => by simp [eqN] at h
  | k + 1, t, ks, h, d, hd, ps, qs, xs, ys, b, hp, hq, he => by
    simp only [eqN] at h
    split at h
    · rename_i fs hu
      split at h
      · cases h
      · rename_i hst
        have hfo : P.fieldsOf t = fs := by simp [Program.fieldsOf, hu]
        have hv : ∀ zs, valOf P t zs = .agg zs.toArray := fun zs => by simp [valOf, hu]
        rw [hv, hv, run_equalIn_struct w d t _ _ (by rw [hfo]; exact hu) (by simpa using hst), hfo]
        have key : ∀ (fl : List Field) (ks0 ms : List CK), eqFs P (eqN P k) ks0 fl = some (ks0 ++ ms) → ∀ b, eqCs ms (ps.drop ks0.length) (qs.drop ks0.length) = some b → ks0.length + ms.length ≤ xs.length → ks0.length + ms.length ≤ ys.length →
            (Op.eqFields d xs.toArray ys.toArray fl).run P w = .ok b w := by
          intro fl
          induction fl with
          | nil =>
            intro ks0 ms h1 b h2 _ _
            simp only [eqFs, Option.some.injEq] at h1
            have : ms = [] := by
              have := congrArg List.length h1; simp at this; exact this
            subst this
            have hl := eqCs_len _ _ _ _ h2
            have e1 : ps.drop ks0.length = [] := List.eq_nil_of_length_eq_zero hl.1
            have e2 : qs.drop ks0.length = [] := List.eq_nil_of_length_eq_zero hl.2
            rw [e1, e2] at h2
            simp only [eqCs, Option.some.injEq] at h2
            subst h2
            simp [Op.eqFields]
          | cons f fl ih =>
            intro ks0 ms h1 b h2 hlx hly
            simp only [eqFs] at h1
            split at h1
            · rename_i hoff
              split at h1
              · rename_i m1 hg
                split at h1
                · rename_i hsz
                  obtain ⟨m2, hm2⟩ := eqFs_ext (eqN P k) fl _ _ h1
                  have hms : ms = m1 ++ m2 := by
                    rw [List.append_assoc] at hm2
                    exact List.append_cancel_left hm2
                  subst hms
                  obtain ⟨b1, b2, e1, e2, rfl⟩ := eqCs_split m1 m2 _ _ b h2
                  rw [List.length_append] at hlx hly
                  have hd1 : 1 ≤ k := by cases k with | zero => simp [eqN] at hg | succ k => omega
                  obtain ⟨d', rfl⟩ : ∃ d', d = d' + 1 := ⟨d - 1, by omega⟩
                  have hfield := eqN_sound k f.type m1 hg d' (by omega) _ _ ((xs.drop ks0.length).take m1.length) ((ys.drop ks0.length).take m1.length) b1 ((hp.drop _).take _) ((hq.drop _).take _) e1
                  have hpx := part_run (w := w) (g := eqN P k) hg hsz xs ks0.length (by omega)
                  have hpy := part_run (w := w) (g := eqN P k) hg hsz ys ks0.length (by omega)
                  have hrest := ih (ks0 ++ m1) m2 (by rw [List.append_assoc]; exact h1) b2 (by rw [List.length_append, ← List.drop_drop, ← List.drop_drop]; exact e2) (by rw [List.length_append]; omega) (by rw [List.length_append]; omega)
                  simp only [Op.eqFields, hoff.2, ne_eq, not_false_eq_true, if_true, Sem.run_bind, hoff.1, hpx, hpy, Result.andThen_ok, hfield]
                  cases b1
                  · simp
                  · simp [hrest]
                · cases h1
              · cases h1
            · cases h1
        have hlen := eqCs_len _ _ _ _ he
        exact key fs.toList [] ks (by simpa using h) b (by simpa using he) (by simp; rw [← hp.1]; omega) (by simp; rw [← hq.1]; omega)
    · rename_i dd hdd hu
      cases hsd : scalD dd with
      | none => simp [hsd] at h
      | some ck =>
        simp only [hsd, Option.map_some, Option.some.injEq] at h
        subst h
        have hlen := eqCs_len _ _ _ _ he
        match ps, qs, hlen with
        | [p], [q], _ =>
          obtain ⟨x, xs', rfl, hx, hxs⟩ := hp.cons_inv
          obtain ⟨y, ys', rfl, hy, hys⟩ := hq.cons_inv
          simp only [eqCs] at he
          split at he
          · rename_i b1 b2 h1 h2
            simp only [Option.some.injEq] at h2 he
            subst h2; subst he
            have hv : ∀ z zs, valOf P t (z :: zs) = z := fun z zs => by
              unfold valOf; rw [hu]; cases dd <;> simp [scalD] at hsd <;> rfl
            rw [hv, hv, Bool.and_true]
            exact scal_eq hu hsd hx hy h1
          · cases he
    · cases h

theorem eqs_sound {forb : List Nat} {nw : Option Nat} {neg : Bool} {t : TypeId} {x y : Operand} {ao : AO} {pv : PV} {ob' : List AObj} (hc : cEqs P neg t x y = some ao) (hs : SlotsOk w F l s a) (he : ev forb nw s ao = some (pv, ob')) :
    ∃ v, ob' = s.ob ∧ (do eqGuard (if neg then .neq else .eql) t x y (a.eval x) (a.eval y); binOp (if neg then .neq else .eql) t (a.eval x) (a.eval y)).run P w = .ok v w ∧ R1 w F l pv v := by
  have hx := opx_sound hs x
  have hy := opx_sound hs y
  unfold cEqs at hc
  split at hc
  · rename_i fs hu
    split at hc
    · cases hc
    · rename_i hg
      cases hn : eqN P 8 t with
      | none => simp [hn] at hc
      | some ks =>
        simp only [hn, Option.map_some, Option.some.injEq] at hc
        subst hc
        simp only [ev] at he
        split at he
        · rename_i ps qs h1 h2
          simp only [Option.map_eq_some_iff, Prod.mk.injEq] at he
          obtain ⟨b, hb, rfl, rfl⟩ := he
          rw [h1] at hx; rw [h2] at hy
          obtain ⟨xs, hxv, hxr⟩ := hx.agg_inv
          obtain ⟨ys, hyv, hyr⟩ := hy.agg_inv
          have key := eqN_sound (w := w) 8 t ks hn 9999 (by omega) ps qs xs ys b hxr hyr hb
          have hv : ∀ zs, valOf P t zs = .agg zs.toArray := fun zs => by simp [valOf, hu]
          rw [hv, hv] at key
          have hgd : ∀ op, (eqGuard op t x y (.agg xs.toArray) (.agg ys.toArray)).run P w = .ok () w := fun op => run_eqGuard_agg w op t x y _ _ (by simpa using hg)
          rw [hxv, hyv]
          cases neg
          · exact ⟨.bool b, rfl, by simp [hgd, run_eql_struct, key], .bool _⟩
          · exact ⟨.bool (!b), rfl, by simp [hgd, run_neq_struct, key], .bool _⟩
        · cases he
  · cases hc

end
end Go.Proofs.YtdgpiobmncohjaaGreat.Aw
