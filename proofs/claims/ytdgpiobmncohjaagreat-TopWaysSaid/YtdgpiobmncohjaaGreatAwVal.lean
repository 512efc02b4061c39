/-
  Abstract values of the walk: what a program value reads as when memory that stays is read by content, and memory that the call itself writes is named. Conditions: none; this text holds definitions and their monotonicity.
-/
import Derived.WalkKit
import Derived.WalkSpells
import Derived.WalkLawsBesides
import Derived.Lib.FrozenHead
namespace Go.Proofs.YtdgpiobmncohjaaGreat.Aw
open Go.RowKit

inductive PV where
  | bot
  | int (k : IntKind) (n : Int)
  | bool (b : Bool)
  | str (s : List UInt8)
  | agg (cs : List PV)
  | tup (cs : List PV)
  | nils
  | slc (rows : List (List PV))
  | osl (o i n : Nat)
  | ref (o off : Nat)
  | lref (o i off len : Nat)
  | bsl (o off n : Nat)
  | fptr (cells : List PV)
  | own (esz : Nat) (rows : List (List PV))
  | nilp
  | fn (f : Fn) (first cap : List PV)
  | nilf
  | ifc (t : TypeId) (v : PV)
  | nili
  | mp (o : Nat)
  | nilm
  /- a slice over a box of the call's own: which, where it begins, how many, how many there may be -/
  | asl (o off n c : Nat)

instance : Inhabited PV := ⟨.bot⟩

structure Loc where
  blk : Nat
  off : Nat
  st : Nat
  cap : Nat
  len : Nat
  esz : Nat
  nil : Bool
  box : Bool

def Loc.sliceVal (L : Loc) (i n : Nat) (v : Value) : Prop :=
  (L.nil = true ∧ i = 0 ∧ n = 0 ∧ v = .slice none 0 0) ∨ (L.nil = false ∧ L.st ≤ i ∧ ∃ a, v = .slice (some a) n (L.cap - i) ∧ (i < L.cap → a = ⟨L.blk, L.off + (i - L.st) * L.esz, none⟩))

def CellsAt (w : World) (b off : Nat) (cv : List Value) : Prop :=
  (∃ c e fr, w.heap[b]? = some (.cells c e fr) ∧ ∀ j, j < cv.length → c[off + j]? = cv[j]?) ∧ ∀ v ∈ cv, v.oneCell' = true

abbrev Locs := Nat → Option Loc

inductive R1 (w : World) (F : Nat → Prop) : Locs → PV → Value → Prop
  | bot {l : Locs} (v : Value) : R1 w F l .bot v
  | int {l : Locs} (k : IntKind) (n : Int) : R1 w F l (.int k n) (.int k n)
  | bool {l : Locs} (b : Bool) : R1 w F l (.bool b) (.bool b)
  | str {l : Locs} (s : List UInt8) : R1 w F l (.str s) (.string ⟨s.toArray⟩)
  | agg {l : Locs} {cs : List PV} {xs : List Value} (hl : cs.length = xs.length) (h : ∀ (i : Nat) c x, cs[i]? = some c → xs[i]? = some x → R1 w F l c x) : R1 w F l (.agg cs) (.agg xs.toArray)
  | tup {l : Locs} {cs : List PV} {xs : List Value} (hl : cs.length = xs.length) (h : ∀ (i : Nat) c x, cs[i]? = some c → xs[i]? = some x → R1 w F l c x) : R1 w F l (.tup cs) (.tuple xs.toArray)
  | nils {l : Locs} : R1 w F l .nils (.slice none 0 0)
  | slc0 {l : Locs} (a : Option Addr) (cap : Nat) : R1 w F l (.slc []) (.slice a 0 cap)
  | slcN {l : Locs} {rows : List (List PV)} {b off cap : Nat} {cv : List Value} {esz : Nat} (hne : rows ≠ []) (hcap : rows.length ≤ cap) (hF : F b) (hc : CellsAt w b off cv) (hr : ∀ r ∈ rows, r.length = esz)
      (hl : rows.flatten.length = cv.length) (h : ∀ (i : Nat) c x, rows.flatten[i]? = some c → cv[i]? = some x → R1 w F (fun _ => none) c x) : R1 w F l (.slc rows) (.slice (some ⟨b, off, none⟩) rows.length cap)
  | osl {l : Locs} {o i n : Nat} {L : Loc} {v : Value} (ho : l o = some L) (hb : L.box = false) (hn : i + n ≤ L.len) (hv : ∃ a m c, v = .slice a m c) (h : i + n = L.len → L.sliceVal i n v) : R1 w F l (.osl o i n) v
  | ref {l : Locs} {o off : Nat} {L : Loc} (ho : l o = some L) (hb : L.box = true) : R1 w F l (.ref o off) (.pointer (some ⟨L.blk, off, none⟩))
  | lref {l : Locs} {o i off len : Nat} {L : Loc} {v : Value} (ho : l o = some L) (hb : L.box = false) (hn : len ≤ L.len) (hv : ∃ a, v = .pointer (some a)) (h : len = L.len → L.st ≤ i ∧ v = .pointer (some ⟨L.blk, L.off + (i - L.st) * L.esz + off, none⟩)) : R1 w F l (.lref o i off len) v
  | bsl {l : Locs} {o off n cap : Nat} {L : Loc} (ho : l o = some L) (hb : L.box = true) (hn : n ≤ cap) : R1 w F l (.bsl o off n) (.slice (some ⟨L.blk, off, none⟩) n cap)
  | fptr {l : Locs} {cells : List PV} {b off : Nat} {cv : List Value} (hF : F b) (hc : CellsAt w b off cv) (hl : cells.length = cv.length)
      (h : ∀ (i : Nat) c x, cells[i]? = some c → cv[i]? = some x → R1 w F (fun _ => none) c x) : R1 w F l (.fptr cells) (.pointer (some ⟨b, off, none⟩))
  | nilp {l : Locs} : R1 w F l .nilp (.pointer none)
  | fn {l : Locs} {f : Fn} {p q : List PV} {xs ys : List Value} (hp : p.length = xs.length) (h1 : ∀ (i : Nat) c x, p[i]? = some c → xs[i]? = some x → R1 w F l c x)
      (hq : q.length = ys.length) (h2 : ∀ (i : Nat) c x, q[i]? = some c → ys[i]? = some x → R1 w F l c x) : R1 w F l (.fn f p q) (.func f xs.toArray ys.toArray)
  | nilf {l : Locs} : R1 w F l .nilf .nilFunc
  | ifc {l : Locs} {t : TypeId} {p : PV} {v : Value} (h : R1 w F l p v) : R1 w F l (.ifc t p) (.iface t v)
  | nili {l : Locs} : R1 w F l .nili .nilIface
  | mp {l : Locs} {o : Nat} {L : Loc} (ho : l o = some L) (hb : L.box = true) : R1 w F l (.mp o) (.map (some L.blk))
  | nilm {l : Locs} : R1 w F l .nilm (.map none)
  | asl {l : Locs} {o off n c : Nat} {L : Loc} {a : Addr} (ho : l o = some L) (hb : L.box = true) (hn : n ≤ c) (ha : 0 < c → a = ⟨L.blk, off, none⟩) : R1 w F l (.asl o off n c) (.slice (some a) n c)

def RL (w : World) (F : Nat → Prop) (l : Locs) (ps : List PV) (vs : List Value) : Prop :=
  ps.length = vs.length ∧ ∀ (i : Nat) c x, ps[i]? = some c → vs[i]? = some x → R1 w F l c x

/-- Locations after a step: those that were are there; a list's may have moved on, being longer now. -/
def LocExt (l l' : Locs) : Prop := ∀ o L, l o = some L → ∃ L', l' o = some L' ∧ (L' = L ∨ (L.box = false ∧ L'.box = false ∧ L.len < L'.len))

structure Mono (w : World) (F : Nat → Prop) (l : Locs) (w' : World) (F' : Nat → Prop) (l' : Locs) : Prop where
  frz : ∀ b, F b → F' b
  heap : ∀ b, F b → w'.heap[b]? = w.heap[b]?
  loc : LocExt l l'

theorem LocExt.refl (l : Locs) : LocExt l l := fun _ L h => ⟨L, h, .inl rfl⟩
theorem LocExt.ofNone (l : Locs) : LocExt (fun _ => none) l := fun _ _ h => nomatch h
theorem LocExt.trans {l l' l'' : Locs} (h : LocExt l l') (k : LocExt l' l'') : LocExt l l'' := by
  intro o L ho
  obtain ⟨L1, h1, e1⟩ := h o L ho
  obtain ⟨L2, h2, e2⟩ := k o L1 h1
  refine ⟨L2, h2, ?_⟩
  rcases e1 with rfl | ⟨a, b, c⟩
  · exact e2
  · rcases e2 with rfl | ⟨d, e, f⟩
    · exact .inr ⟨a, b, c⟩
    · exact .inr ⟨a, e, by omega⟩

theorem Mono.refl (w : World) (F : Nat → Prop) (l : Locs) : Mono w F l w F l := ⟨fun _ h => h, fun _ _ => rfl, LocExt.refl l⟩
theorem Mono.trans {w w' w'' : World} {F F' F'' : Nat → Prop} {l l' l'' : Locs} (h : Mono w F l w' F' l') (k : Mono w' F' l' w'' F'' l'') : Mono w F l w'' F'' l'' :=
  ⟨fun b hb => k.frz b (h.frz b hb), fun b hb => (k.heap b (h.frz b hb)).trans (h.heap b hb), h.loc.trans k.loc⟩

theorem CellsAt.mono {w w' : World} {b off : Nat} {cv : List Value} (h : CellsAt w b off cv) (hb : w'.heap[b]? = w.heap[b]?) : CellsAt w' b off cv := by
  obtain ⟨⟨c, e, fr, h1, h2⟩, h3⟩ := h
  exact ⟨⟨c, e, fr, hb.trans h1, h2⟩, h3⟩

theorem R1.mono {w w' : World} {F F' : Nat → Prop} (hF : ∀ b, F b → F' b) (hw : ∀ b, F b → w'.heap[b]? = w.heap[b]?) {l : Locs} {p : PV} {v : Value} (h : R1 w F l p v) :
    ∀ l', LocExt l l' → R1 w' F' l' p v := by
  induction h with
  | bot v => exact fun _ _ => .bot v
  | int k n => exact fun _ _ => .int k n
  | bool b => exact fun _ _ => .bool b
  | str s => exact fun _ _ => .str s
  | agg hl _ ih => exact fun l' hx => .agg hl fun i c x hc hx' => ih i c x hc hx' l' hx
  | tup hl _ ih => exact fun l' hx => .tup hl fun i c x hc hx' => ih i c x hc hx' l' hx
  | nils => exact fun _ _ => .nils
  | slc0 a cap => exact fun _ _ => .slc0 a cap
  | slcN hne hcap hFb hc hr hl _ ih => exact fun l' _ => .slcN hne hcap (hF _ hFb) (hc.mono (hw _ hFb)) hr hl fun i c x h1 h2 => ih i c x h1 h2 _ (LocExt.refl _)
  | osl ho hb hn hv h =>
    intro l' hx
    obtain ⟨L', h1, h2⟩ := hx _ _ ho
    rcases h2 with rfl | ⟨a, b, c⟩
    · exact .osl h1 hb hn hv h
    · exact .osl h1 b (by omega) hv fun e => by omega
  | ref ho hb =>
    intro l' hx
    obtain ⟨L', h1, h2⟩ := hx _ _ ho
    rcases h2 with rfl | ⟨a, b, c⟩
    · exact .ref h1 hb
    · simp [hb] at a
  | lref ho hb hn hv h =>
    intro l' hx
    obtain ⟨L', h1, h2⟩ := hx _ _ ho
    rcases h2 with rfl | ⟨a, b, c⟩
    · exact .lref h1 hb hn hv h
    · exact .lref h1 b (by omega) hv fun e => by omega
  | bsl ho hb hn =>
    intro l' hx
    obtain ⟨L', h1, h2⟩ := hx _ _ ho
    rcases h2 with rfl | ⟨a, b, c⟩
    · exact .bsl h1 hb hn
    · simp [hb] at a
  | fptr hFb hc hl _ ih => exact fun l' _ => .fptr (hF _ hFb) (hc.mono (hw _ hFb)) hl fun i c x h1 h2 => ih i c x h1 h2 _ (LocExt.refl _)
  | nilp => exact fun _ _ => .nilp
  | fn hp _ hq _ ih1 ih2 => exact fun l' hx => .fn hp (fun i c x h1 h2 => ih1 i c x h1 h2 l' hx) hq fun i c x h1 h2 => ih2 i c x h1 h2 l' hx
  | nilf => exact fun _ _ => .nilf
  | ifc _ ih => exact fun l' hx => .ifc (ih l' hx)
  | nili => exact fun _ _ => .nili
  | mp ho hb =>
    intro l' hx
    obtain ⟨L', h1, h2⟩ := hx _ _ ho
    rcases h2 with rfl | ⟨a, b, c⟩
    · exact .mp h1 hb
    · simp [hb] at a
  | nilm => exact fun _ _ => .nilm
  | asl ho hb hn ha =>
    intro l' hx
    obtain ⟨L', h1, h2⟩ := hx _ _ ho
    rcases h2 with rfl | ⟨a, b, c⟩
    · exact .asl h1 hb hn ha
    · simp [hb] at a

theorem R1.up {w w' : World} {F F' : Nat → Prop} {l l' : Locs} (m : Mono w F l w' F' l') {p : PV} {v : Value} (h : R1 w F l p v) : R1 w' F' l' p v := h.mono m.frz m.heap l' m.loc
theorem R1.free {w : World} {F : Nat → Prop} {l : Locs} {p : PV} {v : Value} (h : R1 w F (fun _ => none) p v) : R1 w F l p v := h.mono (fun _ h => h) (fun _ _ => rfl) l (LocExt.ofNone l)

theorem RL.up {w w' : World} {F F' : Nat → Prop} {l l' : Locs} (m : Mono w F l w' F' l') {ps : List PV} {vs : List Value} (h : RL w F l ps vs) : RL w' F' l' ps vs :=
  ⟨h.1, fun i c x h1 h2 => (h.2 i c x h1 h2).up m⟩
theorem RL.free {w : World} {F : Nat → Prop} {l : Locs} {ps : List PV} {vs : List Value} (h : RL w F (fun _ => none) ps vs) : RL w F l ps vs := ⟨h.1, fun i c x h1 h2 => (h.2 i c x h1 h2).free⟩

section
variable {w : World} {F : Nat → Prop} {l : Locs}
theorem RL.nil : RL w F l [] [] := ⟨rfl, fun i c x h => by simp at h⟩
theorem RL.cons {p : PV} {v : Value} {ps : List PV} {vs : List Value} (h : R1 w F l p v) (hs : RL w F l ps vs) : RL w F l (p :: ps) (v :: vs) := by
  refine ⟨by simp [hs.1], fun i c x h1 h2 => ?_⟩
  cases i with
  | zero => simp at h1 h2; subst h1; subst h2; exact h
  | succ i => exact hs.2 i c x (by simpa using h1) (by simpa using h2)
theorem RL.one {p : PV} {v : Value} (h : R1 w F l p v) : RL w F l [p] [v] := .cons h .nil
theorem RL.uncons {p : PV} {v : Value} {ps : List PV} {vs : List Value} (h : RL w F l (p :: ps) (v :: vs)) : R1 w F l p v ∧ RL w F l ps vs :=
  ⟨h.2 0 _ _ rfl rfl, by simpa using h.1, fun i c x h1 h2 => h.2 (i + 1) c x (by simpa using h1) (by simpa using h2)⟩
theorem RL.cons_inv {p : PV} {ps : List PV} {us : List Value} (h : RL w F l (p :: ps) us) : ∃ v vs, us = v :: vs ∧ R1 w F l p v ∧ RL w F l ps vs := by
  cases us with
  | nil => simp [RL] at h
  | cons v vs => exact ⟨v, vs, rfl, h.uncons⟩
theorem RL.nil_inv {us : List Value} (h : RL w F l [] us) : us = [] := by
  cases us with
  | nil => rfl
  | cons v vs => simp [RL] at h
theorem RL.append {ps qs : List PV} {vs us : List Value} (h : RL w F l ps vs) (k : RL w F l qs us) : RL w F l (ps ++ qs) (vs ++ us) := by
  refine ⟨by simp [h.1, k.1], fun i c x h1 h2 => ?_⟩
  rw [List.getElem?_append] at h1 h2
  rw [← h.1] at h2
  split at h1
  · rename_i hi; rw [if_pos hi] at h2; exact h.2 i c x h1 h2
  · rename_i hi; rw [if_neg hi] at h2; exact k.2 _ c x h1 h2
theorem RL.take {ps : List PV} {vs : List Value} (n : Nat) (h : RL w F l ps vs) : RL w F l (ps.take n) (vs.take n) := by
  refine ⟨by simp [h.1], fun i c x h1 h2 => ?_⟩
  rw [List.getElem?_take] at h1 h2
  split at h1
  · rename_i hi; rw [if_pos hi] at h2; exact h.2 i c x h1 h2
  · cases h1
theorem RL.drop {ps : List PV} {vs : List Value} (n : Nat) (h : RL w F l ps vs) : RL w F l (ps.drop n) (vs.drop n) := by
  refine ⟨by simp [h.1], fun i c x h1 h2 => ?_⟩
  rw [List.getElem?_drop] at h1 h2
  exact h.2 _ c x h1 h2
theorem RL.get {ps : List PV} {vs : List Value} (h : RL w F l ps vs) {i : Nat} {p : PV} (hp : ps[i]? = some p) : ∃ v, vs[i]? = some v ∧ R1 w F l p v := by
  have hi : i < vs.length := by have := List.getElem?_eq_some_iff.1 hp; obtain ⟨hlt, _⟩ := this; have := h.1; omega
  exact ⟨vs[i], by simp [hi], h.2 i _ _ hp (by simp [hi])⟩
end

theorem R1.agg_inv {w : World} {F : Nat → Prop} {l : Locs} {cs : List PV} {v : Value} (h : R1 w F l (.agg cs) v) : ∃ xs, v = .agg xs.toArray ∧ RL w F l cs xs := by
  cases h with
  | agg hl h => exact ⟨_, rfl, hl, h⟩
theorem R1.tup_inv {w : World} {F : Nat → Prop} {l : Locs} {cs : List PV} {v : Value} (h : R1 w F l (.tup cs) v) : ∃ xs, v = .tuple xs.toArray ∧ RL w F l cs xs := by
  cases h with
  | tup hl h => exact ⟨_, rfl, hl, h⟩
theorem R1.int_inv {w : World} {F : Nat → Prop} {l : Locs} {k : IntKind} {n : Int} {v : Value} (h : R1 w F l (.int k n) v) : v = .int k n := by cases h; rfl
theorem R1.bool_inv {w : World} {F : Nat → Prop} {l : Locs} {b : Bool} {v : Value} (h : R1 w F l (.bool b) v) : v = .bool b := by cases h; rfl
theorem R1.str_inv {w : World} {F : Nat → Prop} {l : Locs} {s : List UInt8} {v : Value} (h : R1 w F l (.str s) v) : v = .string ⟨s.toArray⟩ := by cases h; rfl
theorem R1.mkAgg {w : World} {F : Nat → Prop} {l : Locs} {cs : List PV} {xs : List Value} (h : RL w F l cs xs) : R1 w F l (.agg cs) (.agg xs.toArray) := .agg h.1 h.2
theorem R1.mkTup {w : World} {F : Nat → Prop} {l : Locs} {cs : List PV} {xs : List Value} (h : RL w F l cs xs) : R1 w F l (.tup cs) (.tuple xs.toArray) := .tup h.1 h.2

/- Values that name no memory of the call's own. -/
mutual
def PV.own? : PV → Bool
  | .agg cs => ownL cs
  | .tup cs => ownL cs
  | .fn _ a b => ownL a || ownL b
  | .ifc _ v => v.own?
  | .osl .. => true
  | .ref .. => true
  | .lref .. => true
  | .bsl .. => true
  | .mp _ => true
  | .asl .. => true
  | _ => false
def ownL : List PV → Bool
  | [] => false
  | p :: r => p.own? || ownL r
end

theorem ownL_iff : ∀ (ps : List PV), ownL ps = false ↔ ∀ p ∈ ps, p.own? = false
  | [] => by simp [ownL]
  | p :: r => by simp [ownL, ownL_iff r]

theorem own_of_get {ps : List PV} (h : ownL ps = false) {i : Nat} {p : PV} (hp : ps[i]? = some p) : p.own? = false :=
  (ownL_iff ps).1 h p (List.mem_of_getElem? hp)

theorem R1.noOwn {w : World} {F : Nat → Prop} {l : Locs} {p : PV} {v : Value} (h : R1 w F l p v) : p.own? = false → ∀ l', R1 w F l' p v := by
  induction h with
  | bot v => exact fun _ _ => .bot v
  | int k n => exact fun _ _ => .int k n
  | bool b => exact fun _ _ => .bool b
  | str s => exact fun _ _ => .str s
  | agg hl _ ih => exact fun ho l' => .agg hl fun i c x hc hx' => ih i c x hc hx' (own_of_get (by simpa [PV.own?] using ho) hc) l'
  | tup hl _ ih => exact fun ho l' => .tup hl fun i c x hc hx' => ih i c x hc hx' (own_of_get (by simpa [PV.own?] using ho) hc) l'
  | nils => exact fun _ _ => .nils
  | slc0 a cap => exact fun _ _ => .slc0 a cap
  | slcN hne hcap hFb hc hr hl h _ => exact fun _ l' => .slcN hne hcap hFb hc hr hl h
  | osl ho hb hn hv h => intro h; simp [PV.own?] at h
  | ref ho hb => intro h; simp [PV.own?] at h
  | lref ho hb hn hv h => intro h; simp [PV.own?] at h
  | bsl ho hb hn => intro h; simp [PV.own?] at h
  | fptr hFb hc hl h _ => exact fun _ l' => .fptr hFb hc hl h
  | nilp => exact fun _ _ => .nilp
  | fn hp _ hq _ ih1 ih2 =>
    intro ho l'
    simp only [PV.own?, Bool.or_eq_false_iff] at ho
    exact .fn hp (fun i c x h1 h2 => ih1 i c x h1 h2 (own_of_get ho.1 h1) l') hq fun i c x h1 h2 => ih2 i c x h1 h2 (own_of_get ho.2 h1) l'
  | nilf => exact fun _ _ => .nilf
  | ifc _ ih => exact fun ho l' => .ifc (ih (by simpa [PV.own?] using ho) l')
  | nili => exact fun _ _ => .nili
  | mp ho hb => intro h; simp [PV.own?] at h
  | nilm => exact fun _ _ => .nilm
  | asl ho hb hn ha => intro h; simp [PV.own?] at h

theorem RL.noOwn {w : World} {F : Nat → Prop} {l : Locs} {ps : List PV} {vs : List Value} (h : RL w F l ps vs) (ho : ownL ps = false) (l' : Locs) : RL w F l' ps vs :=
  ⟨h.1, fun i c x h1 h2 => (h.2 i c x h1 h2).noOwn (own_of_get ho h1) l'⟩

/- Values whose reading asks no memory at all: the same in every world. -/
mutual
def PV.flat : PV → Bool
  | .agg cs => flatL cs
  | .tup cs => flatL cs
  | .ifc _ v => v.flat
  | .bot | .int .. | .bool _ | .str _ | .nils | .slc [] | .nilp | .nilf | .nili | .nilm => true
  | _ => false
def flatL : List PV → Bool
  | [] => true
  | p :: r => p.flat && flatL r
end

theorem flatL_iff : ∀ (ps : List PV), flatL ps = true ↔ ∀ p ∈ ps, p.flat = true
  | [] => by simp [flatL]
  | p :: r => by simp [flatL, flatL_iff r]

theorem flat_of_get {ps : List PV} (h : flatL ps = true) {i : Nat} {p : PV} (hp : ps[i]? = some p) : p.flat = true :=
  (flatL_iff ps).1 h p (List.mem_of_getElem? hp)

theorem R1.ofFlat {w : World} {F : Nat → Prop} {l : Locs} {p : PV} {v : Value} (h : R1 w F l p v) : p.flat = true → ∀ w' F' l', R1 w' F' l' p v := by
  induction h with
  | bot v => exact fun _ _ _ _ => .bot v
  | int k n => exact fun _ _ _ _ => .int k n
  | bool b => exact fun _ _ _ _ => .bool b
  | str s => exact fun _ _ _ _ => .str s
  | agg hl _ ih => exact fun ho w' F' l' => .agg hl fun i c x hc hx' => ih i c x hc hx' (flat_of_get (by simpa [PV.flat] using ho) hc) w' F' l'
  | tup hl _ ih => exact fun ho w' F' l' => .tup hl fun i c x hc hx' => ih i c x hc hx' (flat_of_get (by simpa [PV.flat] using ho) hc) w' F' l'
  | nils => exact fun _ _ _ _ => .nils
  | slc0 a cap => exact fun _ _ _ _ => .slc0 a cap
  | @slcN l rows b off cap cv esz hne hcap hFb hc hr hl h _ =>
    intro h'
    cases rows with
    | nil => exact absurd rfl hne
    | cons r rs => simp [PV.flat] at h'
  | osl ho hb hn hv h => intro h; simp [PV.flat] at h
  | ref ho hb => intro h; simp [PV.flat] at h
  | lref ho hb hn hv h => intro h; simp [PV.flat] at h
  | bsl ho hb hn => intro h; simp [PV.flat] at h
  | fptr hFb hc hl h _ => intro h; simp [PV.flat] at h
  | nilp => exact fun _ _ _ _ => .nilp
  | fn hp _ hq _ ih1 ih2 => intro h; simp [PV.flat] at h
  | nilf => exact fun _ _ _ _ => .nilf
  | ifc _ ih => exact fun ho w' F' l' => .ifc (ih (by simpa [PV.flat] using ho) w' F' l')
  | nili => exact fun _ _ _ _ => .nili
  | mp ho hb => intro h; simp [PV.flat] at h
  | nilm => exact fun _ _ _ _ => .nilm
  | asl ho hb hn ha => intro h; simp [PV.flat] at h

end Go.Proofs.YtdgpiobmncohjaaGreat.Aw
