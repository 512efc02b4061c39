/-
 Abstract values of the walk: what a program value reads as when memory that stays is read by content, and memory that the call itself writes is named. Conditions: none; this text holds definitions and their monotonicity.; The abstract operations: what each does to abstract values and to the objects that the call itself made. Definitions alone.; What a world's package-level variables are asked to hold: errors.errorType the handle of the type 'error'.
-/
import Derived.WalkKit
import Derived.WalkSpells
import Derived.WalkLawsBesides
import Derived.Lib.FrozenHead
set_option linter.all false
namespace Go.Proofs.YtdgpiobmncohjaaGreatDoor.Aw
open Go.RowKit
inductive PV where
 | bot
 | int (k : IntKind) (n : Int)
 | bool (b : Bool)
 | str (s : List UInt8)
 | agg (cs : List PV)
 | tup (cs : List PV)
 | nils
 | slc (rows : List (List PV))
 | osl (o i n : Nat)
 | ref (o off : Nat)
 | lref (o i off len : Nat)
 | bsl (o off n : Nat)
 | fptr (cells : List PV)
 | own (esz : Nat) (rows : List (List PV))
 | nilp
 | fn (f : Fn) (first cap : List PV)
 | nilf
 | ifc (t : TypeId) (v : PV)
 | nili
 | mp (o : Nat)
 | nilm
 /- a slice over a box of the call's own: which, where it begins, how many, how many there may be -/
 | asl (o off n c : Nat)
instance : Inhabited PV := ⟨.bot⟩
structure Loc where
 blk : Nat
 off : Nat
 st : Nat
 cap : Nat
 len : Nat
 esz : Nat
 nil : Bool
 box : Bool
def Loc.sliceVal (L : Loc) (i n : Nat) (v : Value) : Prop :=
 (L.nil = true ∧ i = 0 ∧ n = 0 ∧ v = .slice none 0 0) ∨ (L.nil = false ∧ L.st ≤ i ∧ ∃ a, v = .slice (some a) n (L.cap - i) ∧ (i < L.cap → a = ⟨L.blk, L.off + (i - L.st) * L.esz, none⟩))
def CellsAt (w : World) (b off : Nat) (cv : List Value) : Prop :=
 (∃ c e fr, w.heap[b]? = some (.cells c e fr) ∧ ∀ j, j < cv.length → c[off + j]? = cv[j]?) ∧ ∀ v ∈ cv, v.oneCell' = true
abbrev Locs := Nat → Option Loc
inductive R1 (w : World) (F : Nat → Prop) : Locs → PV → Value → Prop
 | bot {l : Locs} (v : Value) : R1 w F l .bot v
 | int {l : Locs} (k : IntKind) (n : Int) : R1 w F l (.int k n) (.int k n)
 | bool {l : Locs} (b : Bool) : R1 w F l (.bool b) (.bool b)
 | str {l : Locs} (s : List UInt8) : R1 w F l (.str s) (.string ⟨s.toArray⟩)
 | agg {l : Locs} {cs : List PV} {xs : List Value} (hl : cs.length = xs.length) (h : ∀ (i : Nat) c x, cs[i]? = some c → xs[i]? = some x → R1 w F l c x) : R1 w F l (.agg cs) (.agg xs.toArray)
 | tup {l : Locs} {cs : List PV} {xs : List Value} (hl : cs.length = xs.length) (h : ∀ (i : Nat) c x, cs[i]? = some c → xs[i]? = some x → R1 w F l c x) : R1 w F l (.tup cs) (.tuple xs.toArray)
 | nils {l : Locs} : R1 w F l .nils (.slice none 0 0)
 | slc0 {l : Locs} (a : Option Addr) (cap : Nat) : R1 w F l (.slc []) (.slice a 0 cap)
 | slcN {l : Locs} {rows : List (List PV)} {b off cap : Nat} {cv : List Value} {esz : Nat} (hne : rows ≠ []) (hcap : rows.length ≤ cap) (hF : F b) (hc : CellsAt w b off cv) (hr : ∀ r ∈ rows, r.length = esz)
   (hl : rows.flatten.length = cv.length) (h : ∀ (i : Nat) c x, rows.flatten[i]? = some c → cv[i]? = some x → R1 w F (fun _ => none) c x) : R1 w F l (.slc rows) (.slice (some ⟨b, off, none⟩) rows.length cap)
 | osl {l : Locs} {o i n : Nat} {L : Loc} {v : Value} (ho : l o = some L) (hb : L.box = false) (hn : i + n ≤ L.len) (hv : ∃ a m c, v = .slice a m c) (h : i + n = L.len → L.sliceVal i n v) : R1 w F l (.osl o i n) v
 | ref {l : Locs} {o off : Nat} {L : Loc} (ho : l o = some L) (hb : L.box = true) : R1 w F l (.ref o off) (.pointer (some ⟨L.blk, off, none⟩))
 | lref {l : Locs} {o i off len : Nat} {L : Loc} {v : Value} (ho : l o = some L) (hb : L.box = false) (hn : len ≤ L.len) (hv : ∃ a, v = .pointer (some a)) (h : len = L.len → L.st ≤ i ∧ v = .pointer (some ⟨L.blk, L.off + (i - L.st) * L.esz + off, none⟩)) : R1 w F l (.lref o i off len) v
 | bsl {l : Locs} {o off n cap : Nat} {L : Loc} (ho : l o = some L) (hb : L.box = true) (hn : n ≤ cap) : R1 w F l (.bsl o off n) (.slice (some ⟨L.blk, off, none⟩) n cap)
 | fptr {l : Locs} {cells : List PV} {b off : Nat} {cv : List Value} (hF : F b) (hc : CellsAt w b off cv) (hl : cells.length = cv.length)
   (h : ∀ (i : Nat) c x, cells[i]? = some c → cv[i]? = some x → R1 w F (fun _ => none) c x) : R1 w F l (.fptr cells) (.pointer (some ⟨b, off, none⟩))
 | nilp {l : Locs} : R1 w F l .nilp (.pointer none)
 | fn {l : Locs} {f : Fn} {p q : List PV} {xs ys : List Value} (hp : p.length = xs.length) (h1 : ∀ (i : Nat) c x, p[i]? = some c → xs[i]? = some x → R1 w F l c x)
   (hq : q.length = ys.length) (h2 : ∀ (i : Nat) c x, q[i]? = some c → ys[i]? = some x → R1 w F l c x) : R1 w F l (.fn f p q) (.func f xs.toArray ys.toArray)
 | nilf {l : Locs} : R1 w F l .nilf .nilFunc
 | ifc {l : Locs} {t : TypeId} {p : PV} {v : Value} (h : R1 w F l p v) : R1 w F l (.ifc t p) (.iface t v)
 | nili {l : Locs} : R1 w F l .nili .nilIface
 | mp {l : Locs} {o : Nat} {L : Loc} (ho : l o = some L) (hb : L.box = true) : R1 w F l (.mp o) (.map (some L.blk))
 | nilm {l : Locs} : R1 w F l .nilm (.map none)
 | asl {l : Locs} {o off n c : Nat} {L : Loc} {a : Addr} (ho : l o = some L) (hb : L.box = true) (hn : n ≤ c) (ha : 0 < c → a = ⟨L.blk, off, none⟩) : R1 w F l (.asl o off n c) (.slice (some a) n c)
def RL (w : World) (F : Nat → Prop) (l : Locs) (ps : List PV) (vs : List Value) : Prop :=
 ps.length = vs.length ∧ ∀ (i : Nat) c x, ps[i]? = some c → vs[i]? = some x → R1 w F l c x
def LocExt (l l' : Locs) : Prop := ∀ o L, l o = some L → ∃ L', l' o = some L' ∧ (L' = L ∨ (L.box = false ∧ L'.box = false ∧ L.len < L'.len))
structure Mono (w : World) (F : Nat → Prop) (l : Locs) (w' : World) (F' : Nat → Prop) (l' : Locs) : Prop where
 frz : ∀ b, F b → F' b
 heap : ∀ b, F b → w'.heap[b]? = w.heap[b]?
 loc : LocExt l l'
theorem LocExt.refl (l : Locs) : LocExt l l := fun _ L h => ⟨L, h, .inl rfl⟩
theorem LocExt.ofNone (l : Locs) : LocExt (fun _ => none) l := fun _ _ h => nomatch h
theorem LocExt.trans {l l' l'' : Locs} (h : LocExt l l') (k : LocExt l' l'') : LocExt l l'' := by
 intro o L ho
 obtain ⟨L1, h1, e1⟩ := h o L ho
 obtain ⟨L2, h2, e2⟩ := k o L1 h1
 refine ⟨L2, h2, ?_⟩
 rcases e1 with rfl | ⟨a, b, c⟩
 ·exact e2
 ·rcases e2 with rfl | ⟨d, e, f⟩
  ·exact .inr ⟨a, b, c⟩
  ·exact .inr ⟨a, e, by omega⟩
theorem Mono.refl (w : World) (F : Nat → Prop) (l : Locs) : Mono w F l w F l := ⟨fun _ h => h, fun _ _ => rfl, LocExt.refl l⟩
theorem Mono.trans {w w' w'' : World} {F F' F'' : Nat → Prop} {l l' l'' : Locs} (h : Mono w F l w' F' l') (k : Mono w' F' l' w'' F'' l'') : Mono w F l w'' F'' l'' :=
 ⟨fun b hb => k.frz b (h.frz b hb), fun b hb => (k.heap b (h.frz b hb)).trans (h.heap b hb), h.loc.trans k.loc⟩
theorem CellsAt.mono {w w' : World} {b off : Nat} {cv : List Value} (h : CellsAt w b off cv) (hb : w'.heap[b]? = w.heap[b]?) : CellsAt w' b off cv := by
 obtain ⟨⟨c, e, fr, h1, h2⟩, h3⟩ := h
 exact ⟨⟨c, e, fr, hb.trans h1, h2⟩, h3⟩
theorem R1.mono {w w' : World} {F F' : Nat → Prop} (hF : ∀ b, F b → F' b) (hw : ∀ b, F b → w'.heap[b]? = w.heap[b]?) {l : Locs} {p : PV} {v : Value} (h : R1 w F l p v) :
  ∀ l', LocExt l l' → R1 w' F' l' p v := by
 induction h with
 | bot v => exact fun _ _ => .bot v
 | int k n => exact fun _ _ => .int k n
 | bool b => exact fun _ _ => .bool b
 | str s => exact fun _ _ => .str s
 | agg hl _ ih => exact fun l' hx => .agg hl fun i c x hc hx' => ih i c x hc hx' l' hx
 | tup hl _ ih => exact fun l' hx => .tup hl fun i c x hc hx' => ih i c x hc hx' l' hx
 | nils => exact fun _ _ => .nils
 | slc0 a cap => exact fun _ _ => .slc0 a cap
 | slcN hne hcap hFb hc hr hl _ ih => exact fun l' _ => .slcN hne hcap (hF _ hFb) (hc.mono (hw _ hFb)) hr hl fun i c x h1 h2 => ih i c x h1 h2 _ (LocExt.refl _)
 | osl ho hb hn hv h =>
  intro l' hx
  obtain ⟨L', h1, h2⟩ := hx _ _ ho
  rcases h2 with rfl | ⟨a, b, c⟩
  ·exact .osl h1 hb hn hv h
  ·exact .osl h1 b (by omega) hv fun e => by omega
 | ref ho hb =>
  intro l' hx
  obtain ⟨L', h1, h2⟩ := hx _ _ ho
  rcases h2 with rfl | ⟨a, b, c⟩
  ·exact .ref h1 hb
  ·simp [hb] at a
 | lref ho hb hn hv h =>
  intro l' hx
  obtain ⟨L', h1, h2⟩ := hx _ _ ho
  rcases h2 with rfl | ⟨a, b, c⟩
  ·exact .lref h1 hb hn hv h
  ·exact .lref h1 b (by omega) hv fun e => by omega
 | bsl ho hb hn =>
  intro l' hx
  obtain ⟨L', h1, h2⟩ := hx _ _ ho
  rcases h2 with rfl | ⟨a, b, c⟩
  ·exact .bsl h1 hb hn
  ·simp [hb] at a
 | fptr hFb hc hl _ ih => exact fun l' _ => .fptr (hF _ hFb) (hc.mono (hw _ hFb)) hl fun i c x h1 h2 => ih i c x h1 h2 _ (LocExt.refl _)
 | nilp => exact fun _ _ => .nilp
 | fn hp _ hq _ ih1 ih2 => exact fun l' hx => .fn hp (fun i c x h1 h2 => ih1 i c x h1 h2 l' hx) hq fun i c x h1 h2 => ih2 i c x h1 h2 l' hx
 | nilf => exact fun _ _ => .nilf
 | ifc _ ih => exact fun l' hx => .ifc (ih l' hx)
 | nili => exact fun _ _ => .nili
 | mp ho hb =>
  intro l' hx
  obtain ⟨L', h1, h2⟩ := hx _ _ ho
  rcases h2 with rfl | ⟨a, b, c⟩
  ·exact .mp h1 hb
  ·simp [hb] at a
 | nilm => exact fun _ _ => .nilm
 | asl ho hb hn ha =>
  intro l' hx
  obtain ⟨L', h1, h2⟩ := hx _ _ ho
  rcases h2 with rfl | ⟨a, b, c⟩
  ·exact .asl h1 hb hn ha
  ·simp [hb] at a
theorem R1.up {w w' : World} {F F' : Nat → Prop} {l l' : Locs} (m : Mono w F l w' F' l') {p : PV} {v : Value} (h : R1 w F l p v) : R1 w' F' l' p v := h.mono m.frz m.heap l' m.loc
theorem R1.free {w : World} {F : Nat → Prop} {l : Locs} {p : PV} {v : Value} (h : R1 w F (fun _ => none) p v) : R1 w F l p v := h.mono (fun _ h => h) (fun _ _ => rfl) l (LocExt.ofNone l)
theorem RL.up {w w' : World} {F F' : Nat → Prop} {l l' : Locs} (m : Mono w F l w' F' l') {ps : List PV} {vs : List Value} (h : RL w F l ps vs) : RL w' F' l' ps vs :=
 ⟨h.1, fun i c x h1 h2 => (h.2 i c x h1 h2).up m⟩
theorem RL.free {w : World} {F : Nat → Prop} {l : Locs} {ps : List PV} {vs : List Value} (h : RL w F (fun _ => none) ps vs) : RL w F l ps vs := ⟨h.1, fun i c x h1 h2 => (h.2 i c x h1 h2).free⟩
section
variable {w : World} {F : Nat → Prop} {l : Locs}
theorem RL.nil : RL w F l [] [] := ⟨rfl, fun i c x h => by simp at h⟩
theorem RL.cons {p : PV} {v : Value} {ps : List PV} {vs : List Value} (h : R1 w F l p v) (hs : RL w F l ps vs) : RL w F l (p :: ps) (v :: vs) := by
 refine ⟨by simp [hs.1], fun i c x h1 h2 => ?_⟩
 cases i with
 | zero => simp at h1 h2; subst h1; subst h2; exact h
 | succ i => exact hs.2 i c x (by simpa using h1) (by simpa using h2)
theorem RL.one {p : PV} {v : Value} (h : R1 w F l p v) : RL w F l [p] [v] := .cons h .nil
theorem RL.uncons {p : PV} {v : Value} {ps : List PV} {vs : List Value} (h : RL w F l (p :: ps) (v :: vs)) : R1 w F l p v ∧ RL w F l ps vs :=
 ⟨h.2 0 _ _ rfl rfl, by simpa using h.1, fun i c x h1 h2 => h.2 (i + 1) c x (by simpa using h1) (by simpa using h2)⟩
theorem RL.cons_inv {p : PV} {ps : List PV} {us : List Value} (h : RL w F l (p :: ps) us) : ∃ v vs, us = v :: vs ∧ R1 w F l p v ∧ RL w F l ps vs := by
 cases us with
 | nil => simp [RL] at h
 | cons v vs => exact ⟨v, vs, rfl, h.uncons⟩
theorem RL.nil_inv {us : List Value} (h : RL w F l [] us) : us = [] := by
 cases us with
 | nil => rfl
 | cons v vs => simp [RL] at h
theorem RL.append {ps qs : List PV} {vs us : List Value} (h : RL w F l ps vs) (k : RL w F l qs us) : RL w F l (ps ++ qs) (vs ++ us) := by
 refine ⟨by simp [h.1, k.1], fun i c x h1 h2 => ?_⟩
 rw [List.getElem?_append] at h1 h2
 rw [← h.1] at h2
 split at h1
 ·rename_i hi; rw [if_pos hi] at h2; exact h.2 i c x h1 h2
 ·rename_i hi; rw [if_neg hi] at h2; exact k.2 _ c x h1 h2
theorem RL.take {ps : List PV} {vs : List Value} (n : Nat) (h : RL w F l ps vs) : RL w F l (ps.take n) (vs.take n) := by
 refine ⟨by simp [h.1], fun i c x h1 h2 => ?_⟩
 rw [List.getElem?_take] at h1 h2
 split at h1
 ·rename_i hi; rw [if_pos hi] at h2; exact h.2 i c x h1 h2
 ·cases h1
theorem RL.drop {ps : List PV} {vs : List Value} (n : Nat) (h : RL w F l ps vs) : RL w F l (ps.drop n) (vs.drop n) := by
 refine ⟨by simp [h.1], fun i c x h1 h2 => ?_⟩
 rw [List.getElem?_drop] at h1 h2
 exact h.2 _ c x h1 h2
theorem RL.get {ps : List PV} {vs : List Value} (h : RL w F l ps vs) {i : Nat} {p : PV} (hp : ps[i]? = some p) : ∃ v, vs[i]? = some v ∧ R1 w F l p v := by
 have hi : i < vs.length := by have := List.getElem?_eq_some_iff.1 hp; obtain ⟨hlt, _⟩ := this; have := h.1; omega
 exact ⟨vs[i], by simp [hi], h.2 i _ _ hp (by simp [hi])⟩
end
theorem R1.agg_inv {w : World} {F : Nat → Prop} {l : Locs} {cs : List PV} {v : Value} (h : R1 w F l (.agg cs) v) : ∃ xs, v = .agg xs.toArray ∧ RL w F l cs xs := by
 cases h with
 | agg hl h => exact ⟨_, rfl, hl, h⟩
theorem R1.tup_inv {w : World} {F : Nat → Prop} {l : Locs} {cs : List PV} {v : Value} (h : R1 w F l (.tup cs) v) : ∃ xs, v = .tuple xs.toArray ∧ RL w F l cs xs := by
 cases h with
 | tup hl h => exact ⟨_, rfl, hl, h⟩
theorem R1.int_inv {w : World} {F : Nat → Prop} {l : Locs} {k : IntKind} {n : Int} {v : Value} (h : R1 w F l (.int k n) v) : v = .int k n := by cases h; rfl
theorem R1.bool_inv {w : World} {F : Nat → Prop} {l : Locs} {b : Bool} {v : Value} (h : R1 w F l (.bool b) v) : v = .bool b := by cases h; rfl
theorem R1.str_inv {w : World} {F : Nat → Prop} {l : Locs} {s : List UInt8} {v : Value} (h : R1 w F l (.str s) v) : v = .string ⟨s.toArray⟩ := by cases h; rfl
theorem R1.mkAgg {w : World} {F : Nat → Prop} {l : Locs} {cs : List PV} {xs : List Value} (h : RL w F l cs xs) : R1 w F l (.agg cs) (.agg xs.toArray) := .agg h.1 h.2
theorem R1.mkTup {w : World} {F : Nat → Prop} {l : Locs} {cs : List PV} {xs : List Value} (h : RL w F l cs xs) : R1 w F l (.tup cs) (.tuple xs.toArray) := .tup h.1 h.2
mutual
def PV.own? : PV → Bool
 | .agg cs => ownL cs
 | .tup cs => ownL cs
 | .fn _ a b => ownL a || ownL b
 | .ifc _ v => v.own?
 | .osl .. => true
 | .ref .. => true
 | .lref .. => true
 | .bsl .. => true
 | .mp _ => true
 | .asl .. => true
 | _ => false
def ownL : List PV → Bool
 | [] => false
 | p :: r => p.own? || ownL r
end
theorem ownL_iff : ∀ (ps : List PV), ownL ps = false ↔ ∀ p ∈ ps, p.own? = false
 | [] => by simp [ownL]
 | p :: r => by simp [ownL, ownL_iff r]
theorem own_of_get {ps : List PV} (h : ownL ps = false) {i : Nat} {p : PV} (hp : ps[i]? = some p) : p.own? = false :=
 (ownL_iff ps).1 h p (List.mem_of_getElem? hp)
theorem R1.noOwn {w : World} {F : Nat → Prop} {l : Locs} {p : PV} {v : Value} (h : R1 w F l p v) : p.own? = false → ∀ l', R1 w F l' p v := by
 induction h with
 | bot v => exact fun _ _ => .bot v
 | int k n => exact fun _ _ => .int k n
 | bool b => exact fun _ _ => .bool b
 | str s => exact fun _ _ => .str s
 | agg hl _ ih => exact fun ho l' => .agg hl fun i c x hc hx' => ih i c x hc hx' (own_of_get (by simpa [PV.own?] using ho) hc) l'
 | tup hl _ ih => exact fun ho l' => .tup hl fun i c x hc hx' => ih i c x hc hx' (own_of_get (by simpa [PV.own?] using ho) hc) l'
 | nils => exact fun _ _ => .nils
 | slc0 a cap => exact fun _ _ => .slc0 a cap
 | slcN hne hcap hFb hc hr hl h _ => exact fun _ l' => .slcN hne hcap hFb hc hr hl h
 | osl ho hb hn hv h => intro h; simp [PV.own?] at h
 | ref ho hb => intro h; simp [PV.own?] at h
 | lref ho hb hn hv h => intro h; simp [PV.own?] at h
 | bsl ho hb hn => intro h; simp [PV.own?] at h
 | fptr hFb hc hl h _ => exact fun _ l' => .fptr hFb hc hl h
 | nilp => exact fun _ _ => .nilp
 | fn hp _ hq _ ih1 ih2 =>
  intro ho l'
  simp only [PV.own?, Bool.or_eq_false_iff] at ho
  exact .fn hp (fun i c x h1 h2 => ih1 i c x h1 h2 (own_of_get ho.1 h1) l') hq fun i c x h1 h2 => ih2 i c x h1 h2 (own_of_get ho.2 h1) l'
 | nilf => exact fun _ _ => .nilf
 | ifc _ ih => exact fun ho l' => .ifc (ih (by simpa [PV.own?] using ho) l')
 | nili => exact fun _ _ => .nili
 | mp ho hb => intro h; simp [PV.own?] at h
 | nilm => exact fun _ _ => .nilm
 | asl ho hb hn ha => intro h; simp [PV.own?] at h
theorem RL.noOwn {w : World} {F : Nat → Prop} {l : Locs} {ps : List PV} {vs : List Value} (h : RL w F l ps vs) (ho : ownL ps = false) (l' : Locs) : RL w F l' ps vs :=
 ⟨h.1, fun i c x h1 h2 => (h.2 i c x h1 h2).noOwn (own_of_get ho h1) l'⟩
mutual
def PV.flat : PV → Bool
 | .agg cs => flatL cs
 | .tup cs => flatL cs
 | .ifc _ v => v.flat
 | .bot | .int .. | .bool _ | .str _ | .nils | .slc [] | .nilp | .nilf | .nili | .nilm => true
 | _ => false
def flatL : List PV → Bool
 | [] => true
 | p :: r => p.flat && flatL r
end
theorem flatL_iff : ∀ (ps : List PV), flatL ps = true ↔ ∀ p ∈ ps, p.flat = true
 | [] => by simp [flatL]
 | p :: r => by simp [flatL, flatL_iff r]
theorem flat_of_get {ps : List PV} (h : flatL ps = true) {i : Nat} {p : PV} (hp : ps[i]? = some p) : p.flat = true :=
 (flatL_iff ps).1 h p (List.mem_of_getElem? hp)
theorem R1.ofFlat {w : World} {F : Nat → Prop} {l : Locs} {p : PV} {v : Value} (h : R1 w F l p v) : p.flat = true → ∀ w' F' l', R1 w' F' l' p v := by
 induction h with
 | bot v => exact fun _ _ _ _ => .bot v
 | int k n => exact fun _ _ _ _ => .int k n
 | bool b => exact fun _ _ _ _ => .bool b
 | str s => exact fun _ _ _ _ => .str s
 | agg hl _ ih => exact fun ho w' F' l' => .agg hl fun i c x hc hx' => ih i c x hc hx' (flat_of_get (by simpa [PV.flat] using ho) hc) w' F' l'
 | tup hl _ ih => exact fun ho w' F' l' => .tup hl fun i c x hc hx' => ih i c x hc hx' (flat_of_get (by simpa [PV.flat] using ho) hc) w' F' l'
 | nils => exact fun _ _ _ _ => .nils
 | slc0 a cap => exact fun _ _ _ _ => .slc0 a cap
 | @slcN l rows b off cap cv esz hne hcap hFb hc hr hl h _ =>
  intro h'
  cases rows with
  | nil => exact absurd rfl hne
  | cons r rs => simp [PV.flat] at h'
 | osl ho hb hn hv h => intro h; simp [PV.flat] at h
 | ref ho hb => intro h; simp [PV.flat] at h
 | lref ho hb hn hv h => intro h; simp [PV.flat] at h
 | bsl ho hb hn => intro h; simp [PV.flat] at h
 | fptr hFb hc hl h _ => intro h; simp [PV.flat] at h
 | nilp => exact fun _ _ _ _ => .nilp
 | fn hp _ hq _ ih1 ih2 => intro h; simp [PV.flat] at h
 | nilf => exact fun _ _ _ _ => .nilf
 | ifc _ ih => exact fun ho w' F' l' => .ifc (ih (by simpa [PV.flat] using ho) w' F' l')
 | nili => exact fun _ _ _ _ => .nili
 | mp ho hb => intro h; simp [PV.flat] at h
 | nilm => exact fun _ _ _ _ => .nilm
 | asl ho hb hn ha => intro h; simp [PV.flat] at h
open Go.RowKit
inductive AObj where
 | none
 | box (cells : List PV)
 | list (esz : Nat) (rows : List (List PV))
 | tbox (t : TypeId) (cells : List PV)
 | buf (t : TypeId) (bytes : List UInt8)
 /- a map from numbers: its clock, and of each entry when it came, its key, what is kept -/
 | map (clock : Nat) (es : List (Nat × Int × PV))
 /- a walk over a map: which one, its clock then, which entries have come, its clock at the last step -/
 | iter (m since : Nat) (seen : List Nat) (last : Nat)
 | junk
structure St where
 sl : Nat → PV
 ob : List AObj
inductive AX where
 | t (i : Nat)
 | k (v : PV)
def St.val (s : St) : AX → PV
 | .t i => s.sl i
 | .k v => v
def PV.scal : PV → Bool
 | .agg _ | .tup _ | .bot | .osl .. | .lref .. | .bsl .. | .own .. | .asl .. => false
 | _ => true
def PV.isNils : PV → Bool
 | .nils => true
 | _ => false
def PV.cell? : PV → Bool
 | .agg _ | .tup _ | .bot | .own .. => false
 | _ => true
def PV.cellsOf : PV → List PV
 | .agg cs => cs
 | v => [v]
def setAt (cs : List PV) (off : Nat) (vs : List PV) : List PV := cs.take off ++ (vs ++ cs.drop (off + vs.length))
def ldC (ob : List AObj) (forb : List Nat) (p : PV) (n : Nat) : Option (List PV) :=
 match p with
 | .ref o off =>
  if forb.contains o then none else
  match ob[o]? with
  | some (.box cs) => if off + n ≤ cs.length then some ((cs.drop off).take n) else none
  | some (.tbox _ cs) => if off + n ≤ cs.length then some ((cs.drop off).take n) else none
  | _ => none
 | .lref o i off len =>
  if forb.contains o then none else
  match ob[o]? with
  | some (.list _ rows) =>
   if rows.length = len then
    match rows[i]? with
    | some r => if off + n ≤ r.length then some ((r.drop off).take n) else none
    | none => none
   else none
  | _ => none
 | .fptr cs => if n ≤ cs.length then some (cs.take n) else none
 | _ => none
def stC (ob : List AObj) (forb : List Nat) (p : PV) (vs : List PV) : Option (List AObj) :=
 match p with
 | .ref o off =>
  if forb.contains o then none else
  match ob[o]? with
  | some (.box cs) => if off + vs.length ≤ cs.length then some (ob.set o (.box (setAt cs off vs))) else none
  | some (.tbox t cs) => if off + vs.length ≤ cs.length then some (ob.set o (.tbox t (setAt cs off vs))) else none
  | _ => none
 | .lref o i off len =>
  if forb.contains o || ownL vs then none else
  match ob[o]? with
  | some (.list esz rows) =>
   if rows.length = len then
    match rows[i]? with
    | some r => if off + vs.length ≤ r.length then some (ob.set o (.list esz (rows.set i (setAt r off vs)))) else none
    | none => none
   else none
  | _ => none
 | _ => none
def byteRows (s : List UInt8) : List (List PV) := s.map fun b => [.int .u8 b.toNat]
def rowsOf (ob : List AObj) (forb : List Nat) : PV → Option (List (List PV))
 | .nils => some []
 | .slc rows => some rows
 | .osl o i n =>
  if forb.contains o then none else
  match ob[o]? with
  | some (.list _ rows) => if i + n = rows.length then some (rows.drop i) else none
  | some (.buf _ bs) => if i = 0 ∧ n = bs.length then some (byteRows bs) else none
  | _ => none
 | .bsl o off n =>
  if forb.contains o then none else
  match ob[o]? with
  | some (.box cs) => if off + n ≤ cs.length ∧ ownL cs = false then some (((cs.drop off).take n).map fun c => [c]) else none
  | _ => none
 | _ => none
def rowsOk (esz : Nat) (rows : List (List PV)) : Bool := rows.all fun r => decide (r.length = esz)
theorem rowsOk_iff {esz : Nat} {rows : List (List PV)} : rowsOk esz rows = true ↔ ∀ r ∈ rows, r.length = esz := by simp [rowsOk]
theorem rowsOk_map {α : Type} {esz : Nat} {f : α → List PV} (h : ∀ x, (f x).length = esz) (l : List α) : rowsOk esz (l.map f) = true := by simp [rowsOk, h]
def mkO (s : St) (nw : Option Nat) (a : AObj) : Option (Nat × List AObj) :=
 match nw with
 | none => some (s.ob.length, s.ob ++ [a])
 | some i =>
  match s.ob[i]? with
  | some .none => some (i, s.ob.set i a)
  | _ => none
def binI (op : BinOp) (k : IntKind) (a b : Int) : Option PV :=
 match op with
 | .add => some (.int k (k.wrap (a + b)))
 | .sub => some (.int k (k.wrap (a - b)))
 | .mul => some (.int k (k.wrap (a * b)))
 | .quo => if b = 0 then none else some (.int k (k.wrap (a.tdiv b)))
 | .rem => if b = 0 then none else some (.int k (a.tmod b))
 | .and => some (.int k (k.wrap (BitVec.ofInt k.bits a &&& BitVec.ofInt k.bits b).toNat))
 | .or => some (.int k (k.wrap (BitVec.ofInt k.bits a ||| BitVec.ofInt k.bits b).toNat))
 | .xor => some (.int k (k.wrap (BitVec.ofInt k.bits a ^^^ BitVec.ofInt k.bits b).toNat))
 | .andNot => some (.int k (k.wrap (BitVec.ofInt k.bits a &&& ~~~ (BitVec.ofInt k.bits b)).toNat))
 | .eql => some (.bool (a == b))
 | .neq => some (.bool (a != b))
 | .lss => some (.bool (decide (a < b)))
 | .leq => some (.bool (decide (a ≤ b)))
 | .gtr => some (.bool (decide (b < a)))
 | .geq => some (.bool (decide (b ≤ a)))
 | _ => none
def shI (op : BinOp) (k : IntKind) (a b : Int) : Option PV :=
 if b < 0 then none else
 match op with
 | .shl => some (.int k (k.wrap (a * 2 ^ min b.toNat k.bits)))
 | .shr => some (.int k (a.fdiv (2 ^ min b.toNat k.bits)))
 | _ => none
def binS (op : BinOp) (a b : List UInt8) : Option PV :=
 match op with
 | .add => if a.length + b.length ≤ 9223372036854775807 then some (.str (a ++ b)) else none
 | .eql => some (.bool (a == b))
 | .neq => some (.bool (!(a == b)))
 | _ => none
inductive CK where
 | i | b | s
def eqC : CK → PV → PV → Option Bool
 | .i, .int k a, .int k' b => if k = k' then some (a == b) else none
 | .b, .bool a, .bool b => some (a == b)
 | .s, .str a, .str b => some (a == b)
 | _, _, _ => none
def eqCs : List CK → List PV → List PV → Option Bool
 | [], [], [] => some true
 | k :: ks, a :: r, b :: r' =>
  match eqC k a b, eqCs ks r r' with
  | some x, some y => some (x && y)
  | _, _ => none
 | _, _, _ => none
def binV (op : BinOp) (x y : PV) : Option PV :=
 match x, y with
 | .int k a, .int k' b =>
  match op with
  | .shl | .shr => shI op k a b
  | _ => if k = k' then binI op k a b else none
 | .str a, .str b => binS op a b
 | _, _ => none
def unV (op : UnOp) (x : PV) : Option PV :=
 match op, x with
 | .not, .bool b => some (.bool (!b))
 | .neg, .int k n => some (.int k (k.wrap (0 - n)))
 | .xor, .int k n => some (.int k (k.wrap (BitVec.ofInt k.bits (if k.signed then -1 else k.max) ^^^ BitVec.ofInt k.bits n).toNat))
 | _, _ => none
def byteOf? : List PV → Option UInt8
 | [.int .u8 n] => some (UInt8.ofNat n.toNat)
 | _ => none
def bytesOf? : List (List PV) → Option (List UInt8)
 | [] => some []
 | r :: rs =>
  match byteOf? r, bytesOf? rs with
  | some b, some l => some (b :: l)
  | _, _ => none
inductive NK where
 | p | i | m
inductive MOp where
 | mk
 | get (ok : Bool) (z : PV)
 | set
 | del
 | len
 | rng
 | nxt
 | ent
 | aapp (e : Nat) (z : List PV)
 | aapz (e : Nat) (z : List PV)
 | acpy (e : Nat)
 | aclr (z : List PV)
inductive ArrOp where
 | len
 | cap
 | ix (e : Nat)
 | sl (e : Nat) (lo hi mx : Bool)
 | isnil (neg : Bool)
inductive AO where
 | mv (x : AX)
 | pick (c a b : AX)
 | alloc (z : List PV)
 | box (x : AX)
 | build (z : List PV) (parts : List (Nat × Nat × AX))
 | blds (own : Bool) (z : List PV) (len : Nat) (parts : List (Nat × AX))
 | load (n : Option Nat) (a : AX)
 | store (n : Nat) (a x : AX)
 | nilck (x : AX)
 | bin (op : BinOp) (x y : AX)
 | eqs (neg : Bool) (ks : List CK) (x y : AX)
 | eqb (neg : Bool) (x y : AX)
 | un (op : UnOp) (x : AX)
 | conv (k : IntKind) (x : AX)
 | b2s (x : AX)
 | s2b (own : Bool) (x : AX)
 | faddr (off : Nat) (x : AX)
 | fld (n : Option Nat) (off : Nat) (x : AX)
 | iarr (esz len : Nat) (x i : AX)
 | isl (esz : Nat) (x i : AX)
 | idxs (x i : AX)
 | idxa (n : Option Nat) (esz len : Nat) (x i : AX)
 | sstr (x : AX) (lo hi : Option AX)
 | ssl (esz : Nat) (x : AX) (lo hi : Option AX)
 | sarr (esz len : Nat) (x : AX) (lo hi : Option AX)
 | ext (i : Nat) (x : AX)
 | mkfn (f : Fn) (first cap : List AX)
 | mki (t : TypeId) (x : AX)
 | tas (t : TypeId) (x : AX)
 | lenc (n : Nat)
 | lens (x : AX)
 | len (x : AX)
 | app (esz bytes : Nat) (z : List PV) (x y : AX)
 | apps (e : TypeId) (x y : AX)
 | mm (isMax : Bool) (xs : List AX)
 | mks (own : Bool) (z : List PV) (bytes : Nat) (x y : AX)
 | nilown (esz : Nat)
 | nilsl (neg : Bool) (x : AX)
 | isn (k : NK) (neg : Bool) (x : AX)
 | fail
 | icall (f : Nat) (args : List AX)
 | icallv (f : AX) (args : List AX)
 | icalli (nm : String) (x : AX) (args : List AX)
 | balloc (t u : TypeId)
 | usd (x : AX)
 | ust (e : TypeId) (x y : AX)
 | call (own : Bool) (f : Nat) (args : List AX)
 | callv (f : AX) (args : List AX)
 | mop (m : MOp) (args : List AX)
 | rcall (f : Nat) (args : List AX)
 | arr (op : ArrOp) (xs : List AX)
 | alit (z : List PV) (len : Nat) (parts : List (Nat × AX))
 | ecall (f : Nat) (args : List AX)
 | rcalli (nm : String) (x : AX) (args : List AX)
def isNil? : NK → PV → Option Bool
 | .p, .nilp => some true
 | .p, .ref .. => some false
 | .p, .lref .. => some false
 | .p, .fptr _ => some false
 | .i, .nili => some true
 | .i, .ifc .. => some false
 | .m, .nilm => some true
 | .m, .mp _ => some false
 | _, _ => none
def PV.known : PV → Bool
 | .bot | .own .. => false
 | _ => true
def fillA (s : St) : List PV → List (Nat × Nat × AX) → Option (List PV)
 | z, [] => some z
 | z, (off, sz, x) :: r =>
  if (s.val x).known ∧ (s.val x).cellsOf.length = sz ∧ off + sz ≤ z.length then fillA s (setAt z off (s.val x).cellsOf) r else none
def fillR (s : St) (n : Nat) : List (List PV) → List (Nat × AX) → Option (List (List PV))
 | z, [] => some z
 | z, (i, x) :: r =>
  if (s.val x).known ∧ (s.val x).cellsOf.length = n ∧ i < z.length then fillR s n (z.set i (s.val x).cellsOf) r else none
def asI : PV → Option Int
 | .int _ n => some n
 | _ => none
def optI (s : St) : Option AX → Option (Option Int)
 | none => some none
 | some x => (asI (s.val x)).map some
def bounds (len : Nat) (lo hi : Option Int) : Option (Nat × Nat) :=
 let h := hi.getD len
 let l := lo.getD 0
 if 0 ≤ l ∧ l ≤ h ∧ h ≤ len then some (l.toNat, h.toNat) else none
def mmI (isMax : Bool) (k : IntKind) : Int → List PV → Option Int
 | a, [] => some a
 | a, .int k' b :: r => if k = k' then mmI isMax k (if isMax then (if b > a then b else a) else (if b < a then b else a)) r else none
 | _, _ => none
def partPV (n : Option Nat) (off : Nat) (cs : List PV) : Option PV :=
 match n with
 | none => cs[off]?
 | some n => if off + n ≤ cs.length then some (.agg ((cs.drop off).take n)) else none
def asBnd (b : Bool) (p : PV) (d : Int) : Option Int := if b then asI p else some d
def aslB (e o off n c : Nat) (l h m : Option Int) : Option PV :=
 match l, h, m with
 | some l, some h, some m => if 0 ≤ l ∧ l ≤ h ∧ h ≤ m ∧ m ≤ (c : Int) then some (.asl o (off + l.toNat * e) (h - l).toNat (m - l).toNat) else none
 | _, _, _ => none
def nilB (l h m : Option Int) : Option PV :=
 match l, h, m with
 | some l, some h, some m => if l = 0 ∧ h = 0 ∧ m = 0 then some .nils else none
 | _, _, _ => none
def arrV (op : ArrOp) (xs : List PV) : Option PV :=
 match op, xs with
 | .len, [.asl _ _ n _] => some (.int .i64 n)
 | .len, [.nils] => some (.int .i64 0)
 | .cap, [.asl _ _ _ c] => some (.int .i64 c)
 | .cap, [.nils] => some (.int .i64 0)
 | .ix e, [.asl o off n _, .int _ i] => if 0 ≤ i ∧ i < (n : Int) then some (.ref o (off + i.toNat * e)) else none
 | .ix e, [.bsl o off n, .int _ i] => if 0 ≤ i ∧ i < (n : Int) then some (.ref o (off + i.toNat * e)) else none
 | .sl e bl bh bm, [.asl o off n c, lo, hi, mx] => aslB e o off n c (asBnd bl lo 0) (asBnd bh hi n) (asBnd bm mx c)
 | .sl _ bl bh bm, [.nils, lo, hi, mx] => nilB (asBnd bl lo 0) (asBnd bh hi 0) (asBnd bm mx 0)
 | .isnil neg, [.asl _ _ _ _] => some (.bool neg)
 | .isnil neg, [.nils] => some (.bool (!neg))
 | _, _ => none
def ev (forb : List Nat) (nw : Option Nat) (s : St) : AO → Option (PV × List AObj)
 | .mv x => some (s.val x, s.ob)
 | .pick c a b =>
  match s.val c with
  | .bool t => some (if t then s.val a else s.val b, s.ob)
  | _ => none
 | .alloc z => (mkO s nw (.box z)).map fun (o, ob) => (.ref o 0, ob)
 | .box x => if (s.val x).known ∧ (s.val x).cellsOf.all PV.cell? then (mkO s nw (.box (s.val x).cellsOf)).map fun (o, ob) => (.ref o 0, ob) else none
 | .build z parts => (fillA s z parts).map fun cs => (.agg cs, s.ob)
 | .blds own z len parts =>
  (fillR s z.length (List.replicate len z) parts).bind fun rows =>
   if rows.all (fun r => r.all PV.scal && !ownL r) then
    if own then (mkO s nw (.list z.length rows)).map fun (o, ob) => (.osl o 0 rows.length, ob) else some (.slc rows, s.ob)
   else none
 | .load n a =>
  match n with
  | none => match ldC s.ob forb (s.val a) 1 with
   | some [v] => some (v, s.ob)
   | _ => none
  | some n => (ldC s.ob forb (s.val a) n).map fun cs => (.agg cs, s.ob)
 | .store n a x =>
  let cs := (s.val x).cellsOf
  if cs.length = n ∧ cs.all PV.cell? then (stC s.ob forb (s.val a) cs).map fun ob => (.bot, ob) else none
 | .nilck x =>
  match s.val x with
  | .ref o i => some (.ref o i, s.ob)
  | .lref o i j n => some (.lref o i j n, s.ob)
  | .fptr cs => some (.fptr cs, s.ob)
  | _ => none
 | .bin op x y => (binV op (s.val x) (s.val y)).map fun v => (v, s.ob)
 | .eqs neg ks x y =>
  match s.val x, s.val y with
  | .agg a, .agg b => (eqCs ks a b).map fun t => (.bool (if neg then !t else t), s.ob)
  | _, _ => none
 | .eqb neg x y =>
  match s.val x, s.val y with
  | .bool a, .bool b => some (.bool (if neg then !(a == b) else a == b), s.ob)
  | _, _ => none
 | .un op x => (unV op (s.val x)).map fun v => (v, s.ob)
 | .conv k x =>
  match s.val x with
  | .int _ n => some (.int k (k.wrap n), s.ob)
  | _ => none
 | .b2s x => ((rowsOf s.ob forb (s.val x)).bind bytesOf?).map fun l => (.str l, s.ob)
 | .s2b own x =>
  match s.val x with
  | .str l => if own then (mkO s nw (.list 1 (byteRows l))).map fun (o, ob) => (.osl o 0 l.length, ob) else some (.slc (byteRows l), s.ob)
  | _ => none
 | .faddr off x =>
  match s.val x with
  | .ref o i => some (.ref o (i + off), s.ob)
  | .lref o i j n => some (.lref o i (j + off) n, s.ob)
  | .fptr cs => if off ≤ cs.length then some (.fptr (cs.drop off), s.ob) else none
  | _ => none
 | .fld n off x =>
  match s.val x with
  | .agg cs => (partPV n off cs).map fun v => (v, s.ob)
  | _ => none
 | .iarr esz len x i =>
  match s.val x, s.val i with
  | .ref o j, .int _ n => if 0 ≤ n ∧ n < len then some (.ref o (j + n.toNat * esz), s.ob) else none
  | .fptr cs, .int _ n => if 0 ≤ n ∧ n < len ∧ n.toNat * esz ≤ cs.length then some (.fptr (cs.drop (n.toNat * esz)), s.ob) else none
  | _, _ => none
 | .isl esz x i =>
  match s.val x, s.val i with
  | .slc rows, .int _ n =>
   if 0 ≤ n then
    match rows[n.toNat]? with
    | some r => if r.length = esz then some (.fptr r, s.ob) else none
    | none => none
   else none
  | .osl o j m, .int _ n =>
   if forb.contains o then none else
   match s.ob[o]? with
   | some (.list z rows) => if z = esz ∧ j + m = rows.length ∧ 0 ≤ n ∧ n < m then some (.lref o (j + n.toNat) 0 rows.length, s.ob) else none
   | _ => none
  | .bsl o off m, .int _ n => if 0 ≤ n ∧ n < m then some (.ref o (off + n.toNat * esz), s.ob) else none
  | _, _ => none
 | .idxs x i =>
  match s.val x, s.val i with
  | .str l, .int _ n => if 0 ≤ n then (l[n.toNat]?).map fun b => (.int .u8 b.toNat, s.ob) else none
  | _, _ => none
 | .idxa n esz len x i =>
  match s.val x, s.val i with
  | .agg cs, .int _ j =>
   if 0 ≤ j ∧ j < len then (partPV n (j.toNat * esz) cs).map fun v => (v, s.ob) else none
  | _, _ => none
 | .sstr x lo hi =>
  match s.val x, optI s lo, optI s hi with
  | .str l, some a, some b => (bounds l.length a b).map fun (i, j) => (.str ((l.take j).drop i), s.ob)
  | _, _, _ => none
 | .ssl esz x lo hi =>
  match optI s lo, optI s hi with
  | some a, some b =>
   match s.val x with
   | .slc rows => if rowsOk esz rows = true then (bounds rows.length a b).map fun (i, j) => (.slc ((rows.take j).drop i), s.ob) else none
   | .nils => (bounds 0 a b).map fun _ => (.nils, s.ob)
   | .osl o j m =>
    if forb.contains o then none else
    match s.ob[o]? with
    | some (.list z rows) => if z = esz ∧ j + m = rows.length then (bounds m a b).bind fun (i, k) => if k = m then some (.osl o (j + i) (m - i), s.ob) else none else none
    | _ => none
   | _ => none
  | _, _ => none
 | .sarr esz len x lo hi =>
  match optI s lo, optI s hi with
  | some a, some b =>
   match s.val x with
   | .ref o off => if esz = 1 then (bounds len a b).map fun (i, j) => (.bsl o (if i = len then off else off + i) (j - i), s.ob) else none
   | _ => none
  | _, _ => none
 | .ext i x =>
  match s.val x with
  | .tup cs => (cs[i]?).map fun v => (v, s.ob)
  | _ => none
 | .mkfn f first cap => some (.fn f (first.map s.val) (cap.map s.val), s.ob)
 | .mki t x => some (.ifc t (s.val x), s.ob)
 | .tas t x =>
  match s.val x with
  | .ifc t' p => some (if t' = t then .tup [p, .bool true] else .tup [.nilp, .bool false], s.ob)
  | .nili => some (.tup [.nilp, .bool false], s.ob)
  | _ => none
 | .lenc n => some (.int .i64 n, s.ob)
 | .lens x =>
  match s.val x with
  | .str l => some (.int .i64 l.length, s.ob)
  | _ => none
 | .len x => (rowsOf s.ob forb (s.val x)).map fun r => (.int .i64 r.length, s.ob)
 | .app esz _ _ x y =>
  (rowsOf s.ob forb (s.val y)).bind fun new =>
   if rowsOk esz new = true ∧ new.length ≤ 16777216 then
    match s.val x with
    | .nils => (mkO s nw (.list esz new)).map fun (o, ob) => (.osl o 0 new.length, ob)
    | .osl o i n =>
     if forb.contains o then none else
     match s.ob[o]? with
     | some (.list z rows) => if z = esz ∧ i + n = rows.length ∧ rows.length ≤ 16777216 then some (.osl o i (n + new.length), s.ob.set o (.list z (rows ++ new))) else none
     | _ => none
    | _ => none
   else none
 | .apps e x y =>
  match s.val y with
  | .str l =>
   if l.length ≤ 16777216 then
    match s.val x with
    | .osl o 0 n =>
     if forb.contains o then none else
     match s.ob[o]? with
     | some (.buf u bs) => if u = e ∧ n = bs.length ∧ bs.length ≤ 16777216 then some (.osl o 0 (n + l.length), s.ob.set o (.buf u (bs ++ l))) else none
     | _ => none
    | _ => none
   else none
  | _ => none
 | .mm isMax xs =>
  match xs.map s.val with
  | .int k a :: r => (mmI isMax k a r).map fun n => (.int k n, s.ob)
  | _ => none
 | .mks own z _ x y =>
  match s.val x, s.val y with
  | .int _ n, .int _ c =>
   if 0 ≤ n ∧ n = c ∧ n ≤ 16777216 ∧ z.all (fun p => p.scal) ∧ ownL z = false then
    if own then
     if z.any PV.isNils then (mkO s nw (.box (List.replicate n.toNat z).flatten)).map fun (o, ob) => (.bsl o 0 n.toNat, ob)
     else (mkO s nw (.list z.length (List.replicate n.toNat z))).map fun (o, ob) => (.osl o 0 n.toNat, ob)
    else some (.slc (List.replicate n.toNat z), s.ob)
   else none
  | _, _ => none
 | .nilown esz => (mkO s nw (.list esz [])).map fun (o, ob) => (.osl o 0 0, ob)
 | .nilsl neg x =>
  match s.val x with
  | .nils => some (.bool (!neg), s.ob)
  | .slc (_ :: _) => some (.bool neg, s.ob)
  | _ => none
 | .isn k neg x => (isNil? k (s.val x)).map fun b => (.bool (if neg then !b else b), s.ob)
 | .balloc t u =>
  match nw with
  | none => some (.ref (s.ob.length + 1) 0, s.ob ++ [.buf u []] ++ [.tbox t [.nilp, .osl s.ob.length 0 0]])
  | some _ => none
 | .usd x =>
  match s.val x with
  | .osl o 0 n =>
   if forb.contains o then none else
   match s.ob[o]? with
   | some (.buf _ bs) => if n = bs.length then some (if n = 0 then .nilp else .lref o 0 0 n, s.ob) else none
   | _ => none
  | _ => none
 | .ust e x y =>
  match s.val x, s.val y with
  | .lref o 0 0 len, .int k n =>
   if forb.contains o then none else
   match s.ob[o]? with
   | some (.buf u bs) => if u = e ∧ bs.length = len ∧ n = len ∧ 0 < len ∧ len ≤ 16777216 ∧ k = .i64 then some (.str bs, s.ob) else none
   | _ => none
  | .nilp, .int k n => if n = 0 ∧ k = .i64 then some (.str [], s.ob) else none
  | _, _ => none
 | .arr op xs => (arrV op (xs.map s.val)).map fun v => (v, s.ob)
 | .alit z len parts =>
  (fillR s z.length (List.replicate len z) parts).bind fun rows =>
   if rows.flatten.all PV.cell? then (mkO s nw (.box rows.flatten)).map fun (o, ob) => (.asl o 0 rows.length rows.length, ob) else none
 | .call .. | .callv .. | .icall .. | .icallv .. | .icalli .. | .mop .. | .rcall .. | .ecall .. | .rcalli .. | .fail => none
def mGet (k : Int) : List (Nat × Int × PV) → Option PV
 | [] => none
 | e :: r => if k = e.2.1 then some e.2.2 else mGet k r
def mSet (k : Int) (v : PV) : List (Nat × Int × PV) → List (Nat × Int × PV)
 | [] => []
 | e :: r => if k = e.2.1 then (e.1, k, v) :: r else e :: mSet k v r
def mDel (k : Int) : List (Nat × Int × PV) → List (Nat × Int × PV)
 | [] => []
 | e :: r => if k = e.2.1 then r else e :: mDel k r
def mLeft (seen : List Nat) (es : List (Nat × Int × PV)) : List (Nat × Int × PV) := es.filter fun e => !seen.contains e.1
abbrev MK := PV → List AObj → Prop
def mGetP (ok : Bool) (z : PV) (r : Option PV) (ob : List AObj) (K : MK) : Prop :=
 match r with
 | some p => K (if ok then .tup [p, .bool true] else p) ob
 | none => K (if ok then .tup [z, .bool false] else z) ob
def mGetO (ok : Bool) (z : PV) (k : Int) (a : Option AObj) (ob : List AObj) (K : MK) : Prop :=
 match a with
 | some (.map _ es) => mGetP ok z (mGet k es) ob K
 | _ => False
def mSetP (o c : Nat) (k : Int) (v : PV) (es : List (Nat × Int × PV)) (r : Option PV) (ob : List AObj) (K : MK) : Prop :=
 match r with
 | some _ => K .bot (ob.set o (.map c (mSet k v es)))
 | none => K .bot (ob.set o (.map (c + 1) (es ++ [(c, k, v)])))
def mSetO (o : Nat) (k : Int) (v : PV) (a : Option AObj) (ob : List AObj) (K : MK) : Prop :=
 match a with
 | some (.map c es) => mSetP o c k v es (mGet k es) ob K
 | _ => False
def mDelO (o : Nat) (k : Int) (a : Option AObj) (ob : List AObj) (K : MK) : Prop :=
 match a with
 | some (.map c es) => K (.tup []) (ob.set o (.map c (mDel k es)))
 | _ => False
def mLenO (a : Option AObj) (ob : List AObj) (K : MK) : Prop :=
 match a with
 | some (.map _ es) => K (.int .i64 es.length) ob
 | _ => False
def mRngO (o : Nat) (a : Option AObj) (ob : List AObj) (K : MK) : Prop :=
 match a with
 | some (.map c _) => K (.ref ob.length 0) (ob ++ [.iter o c [] c])
 | _ => False
def mNxtP (o m since : Nat) (seen : List Nat) (last c : Nat) (es : List (Nat × Int × PV)) (ob : List AObj) (K : MK) : Prop :=
 (∀ e ∈ es, e.1 < since) ∧ since ≤ last ∧ (mLeft seen es = [] → K (.tup [.bool false]) ob) ∧
  ∀ e ∈ mLeft seen es, K (.tup [.bool true, .int .i64 e.2.1, e.2.2]) (ob.set o (.iter m since (seen ++ [e.1]) c))
def mNxtM (o m since : Nat) (seen : List Nat) (last : Nat) (a : Option AObj) (ob : List AObj) (K : MK) : Prop :=
 match a with
 | some (.map c es) => mNxtP o m since seen last c es ob K
 | _ => False
def mNxtO (o : Nat) (a : Option AObj) (ob : List AObj) (K : MK) : Prop :=
 match a with
 | some (.iter m since seen last) => mNxtM o m since seen last ob[m]? ob K
 | _ => False
def mEntE (r : Option (Nat × Int × PV)) (ob : List AObj) (K : MK) : Prop :=
 match r with
 | some e => K (.tup [.int .i64 e.2.1, e.2.2]) ob
 | none => False
def mEntM (seen : List Nat) (last : Nat) (a : Option AObj) (ob : List AObj) (K : MK) : Prop :=
 match a with
 | some (.map c es) => c = last ∧ mEntE (seen.getLast?.bind fun b => es.find? fun e => e.1 == b) ob K
 | _ => False
def mEntO (a : Option AObj) (ob : List AObj) (K : MK) : Prop :=
 match a with
 | some (.iter m _ seen last) => mEntM seen last ob[m]? ob K
 | _ => False
def arrSrcO (a : Option AObj) (e off n : Nat) : Option (List PV) :=
 match a with
 | some (.box cs) => if off + n * e ≤ cs.length then some ((cs.drop off).take (n * e)) else none
 | _ => none
def arrSrc (ob : List AObj) (e : Nat) : PV → Option (List PV)
 | .nils => some []
 | .asl o off n _ => if n = 0 then some [] else arrSrcO ob[o]? e off n
 | .slc rows => if rowsOk e rows = true then some rows.flatten else none
 | _ => none
def arrLen : PV → Nat
 | .asl _ _ n _ => n
 | .slc rows => rows.length
 | _ => 0
def aGrow (n m : Nat) (z olds news : List PV) (ob : List AObj) (K : MK) : Prop :=
 0 < m ∧ n + m ≤ 16777216 ∧ ∀ c, n + m ≤ c → c ≤ 9223372036854775807 → K (.asl ob.length 0 (n + m) c) (ob ++ [.box (olds ++ (news ++ (List.replicate (c - (n + m)) z).flatten))])
def aGrowO (n m : Nat) (z : List PV) (olds : Option (List PV)) (news : List PV) (ob : List AObj) (K : MK) : Prop :=
 match olds with
 | some xs => aGrow n m z xs news ob K
 | none => False
def aPutO (a : Option AObj) (o at_ : Nat) (ys : List PV) (r : PV) (ob : List AObj) (K : MK) : Prop :=
 match a with
 | some (.box cs) => at_ + ys.length ≤ cs.length ∧ K r (ob.set o (.box (setAt cs at_ ys)))
 | _ => False
def aAppY (e : Nat) (z : List PV) (x : PV) (m : Nat) (ys : Option (List PV)) (ob : List AObj) (K : MK) : Prop :=
 match ys with
 | some ys =>
  match x with
  | .asl o off n c => if m = 0 then K (.asl o off n c) ob else if n + m ≤ c then aPutO ob[o]? o (off + n * e) ys (.asl o off (n + m) c) ob K else aGrowO n m z (arrSrc ob e (.asl o off n c)) ys ob K
  | .nils => if m = 0 then K .nils ob else aGrow 0 m z [] ys ob K
  | _ => False
 | none => False
def aApzY (e : Nat) (z : List PV) (x : PV) (k : Int) (ob : List AObj) (K : MK) : Prop :=
 match x with
 | .asl o off n c => 0 < k ∧ c < n + k.toNat ∧ aGrowO n k.toNat z (arrSrc ob e (.asl o off n c)) (List.replicate k.toNat z).flatten ob K
 | .nils => 0 < k ∧ aGrow 0 k.toNat z [] (List.replicate k.toNat z).flatten ob K
 | _ => False
def aCpyY (e : Nat) (d : PV) (m : Nat) (ys : Option (List PV)) (ob : List AObj) (K : MK) : Prop :=
 match d, ys with
 | .asl o off n _, some ys => if min m n = 0 then K (.int .i64 0) ob else aPutO ob[o]? o off (ys.take (min m n * e)) (.int .i64 ((min m n : Nat) : Int)) ob K
 | _, _ => False
def aClrX (z : List PV) (x : PV) (ob : List AObj) (K : MK) : Prop :=
 match x with
 | .asl o off n _ => if n = 0 then K (.tup []) ob else aPutO ob[o]? o off (List.replicate n z).flatten (.tup []) ob K
 | _ => False
def MStep (m : MOp) (ps : List PV) (ob : List AObj) (K : MK) : Prop :=
 match m, ps with
 | .mk, [] => K (.mp ob.length) (ob ++ [.map 0 []])
 | .get ok z, [.mp o, .int .i64 k] => mGetO ok z k ob[o]? ob K
 | .set, [.mp o, .int .i64 k, v] => mSetO o k v ob[o]? ob K
 | .del, [.mp o, .int .i64 k] => mDelO o k ob[o]? ob K
 | .len, [.mp o] => mLenO ob[o]? ob K
 | .rng, [.mp o] => mRngO o ob[o]? ob K
 | .nxt, [.ref o 0] => mNxtO o ob[o]? ob K
 | .ent, [.ref o 0] => mEntO ob[o]? ob K
 | .aapp e z, [x, y] => aAppY e z x (arrLen y) (arrSrc ob e y) ob K
 | .aapz e z, [x, .int .i64 k] => aApzY e z x k ob K
 | .acpy e, [x, y] => aCpyY e x (arrLen y) (arrSrc ob e y) ob K
 | .aclr z, [x] => aClrX z x ob K
 | _, _ => False
section
variable {ob : List AObj} {K K' : MK} (h : ∀ r ob, K r ob → K' r ob)
include h
theorem mGetO_mono {ok z k a} (hk : mGetO ok z k a ob K) : mGetO ok z k a ob K' := by
 unfold mGetO at *
 split at hk
 ·unfold mGetP at *
  split at hk <;> exact h _ _ hk
 ·exact hk
theorem mSetO_mono {o k v a} (hk : mSetO o k v a ob K) : mSetO o k v a ob K' := by
 unfold mSetO at *
 split at hk
 ·unfold mSetP at *
  split at hk <;> exact h _ _ hk
 ·exact hk
theorem mDelO_mono {o k a} (hk : mDelO o k a ob K) : mDelO o k a ob K' := by
 unfold mDelO at *
 split at hk
 ·exact h _ _ hk
 ·exact hk
theorem mLenO_mono {a} (hk : mLenO a ob K) : mLenO a ob K' := by
 unfold mLenO at *
 split at hk
 ·exact h _ _ hk
 ·exact hk
theorem mRngO_mono {o a} (hk : mRngO o a ob K) : mRngO o a ob K' := by
 unfold mRngO at *
 split at hk
 ·exact h _ _ hk
 ·exact hk
theorem mNxtO_mono {o a} (hk : mNxtO o a ob K) : mNxtO o a ob K' := by
 unfold mNxtO at *
 split at hk
 ·unfold mNxtM at *
  split at hk
  ·exact ⟨hk.1, hk.2.1, fun e => h _ _ (hk.2.2.1 e), fun e he => h _ _ (hk.2.2.2 e he)⟩
  ·exact hk
 ·exact hk
theorem mEntO_mono {a} (hk : mEntO a ob K) : mEntO a ob K' := by
 unfold mEntO at *
 split at hk
 ·unfold mEntM at *
  split at hk
  ·refine ⟨hk.1, ?_⟩
   have h2 := hk.2
   unfold mEntE at h2 ⊢
   split at h2
   ·exact h _ _ h2
   ·exact h2
  ·exact hk
 ·exact hk
theorem aGrow_mono {n m z xs ys} (hk : aGrow n m z xs ys ob K) : aGrow n m z xs ys ob K' := ⟨hk.1, hk.2.1, fun c h1 h2 => h _ _ (hk.2.2 c h1 h2)⟩
theorem aGrowO_mono {n m z xs ys} (hk : aGrowO n m z xs ys ob K) : aGrowO n m z xs ys ob K' := by
 unfold aGrowO at *
 split at hk
 ·exact aGrow_mono h hk
 ·exact hk
theorem aPutO_mono {a o q ys r} (hk : aPutO a o q ys r ob K) : aPutO a o q ys r ob K' := by
 unfold aPutO at *
 split at hk
 ·exact ⟨hk.1, h _ _ hk.2⟩
 ·exact hk
theorem aAppY_mono {e z x m ys} (hk : aAppY e z x m ys ob K) : aAppY e z x m ys ob K' := by
 unfold aAppY at *
 split at hk
 ·split at hk
  ·split
   ·rename_i h0; rw [if_pos h0] at hk; exact h _ _ hk
   ·rename_i h0
    rw [if_neg h0] at hk
    split
    ·rename_i h1; rw [if_pos h1] at hk; exact aPutO_mono h hk
    ·rename_i h1; rw [if_neg h1] at hk; exact aGrowO_mono h hk
  ·split
   ·rename_i h0; rw [if_pos h0] at hk; exact h _ _ hk
   ·rename_i h0; rw [if_neg h0] at hk; exact aGrow_mono h hk
  ·exact hk.elim
 ·exact hk
theorem aApzY_mono {e z x k} (hk : aApzY e z x k ob K) : aApzY e z x k ob K' := by
 unfold aApzY at *
 split at hk
 ·exact ⟨hk.1, hk.2.1, aGrowO_mono h hk.2.2⟩
 ·exact ⟨hk.1, aGrow_mono h hk.2⟩
 ·exact hk
theorem aCpyY_mono {e d m ys} (hk : aCpyY e d m ys ob K) : aCpyY e d m ys ob K' := by
 unfold aCpyY at *
 split at hk
 ·split
  ·rename_i h0; rw [if_pos h0] at hk; exact h _ _ hk
  ·rename_i h0; rw [if_neg h0] at hk; exact aPutO_mono h hk
 ·exact hk
theorem aClrX_mono {z x} (hk : aClrX z x ob K) : aClrX z x ob K' := by
 unfold aClrX at *
 split at hk
 ·split
  ·rename_i h0; rw [if_pos h0] at hk; exact h _ _ hk
  ·rename_i h0; rw [if_neg h0] at hk; exact aPutO_mono h hk
 ·exact hk
theorem MStep_mono {m : MOp} {ps : List PV} (hk : MStep m ps ob K) : MStep m ps ob K' := by
 unfold MStep at hk ⊢
 split at hk
 ·exact h _ _ hk
 ·exact mGetO_mono h hk
 ·exact mSetO_mono h hk
 ·exact mDelO_mono h hk
 ·exact mLenO_mono h hk
 ·exact mRngO_mono h hk
 ·exact mNxtO_mono h hk
 ·exact mEntO_mono h hk
 ·exact aAppY_mono h hk
 ·exact aApzY_mono h hk
 ·exact aCpyY_mono h hk
 ·exact aClrX_mono h hk
 ·exact hk.elim
end
theorem aGrow_ex {n m z xs ys} {ob : List AObj} {K : MK} (hk : aGrow n m z xs ys ob K) : ∃ r ob', K r ob' := ⟨_, _, hk.2.2 (n + m) (Nat.le_refl _) (by have := hk.2.1; omega)⟩
theorem aGrowO_ex {n m z xs ys} {ob : List AObj} {K : MK} (hk : aGrowO n m z xs ys ob K) : ∃ r ob', K r ob' := by
 unfold aGrowO at hk
 split at hk
 ·exact aGrow_ex hk
 ·exact hk.elim
theorem aPutO_ex {a o q ys r} {ob : List AObj} {K : MK} (hk : aPutO a o q ys r ob K) : ∃ r ob', K r ob' := by
 unfold aPutO at hk
 split at hk
 ·exact ⟨_, _, hk.2⟩
 ·exact hk.elim
theorem aAppY_ex {e z x m ys} {ob : List AObj} {K : MK} (hk : aAppY e z x m ys ob K) : ∃ r ob', K r ob' := by
 unfold aAppY at hk
 split at hk
 ·split at hk
  ·split at hk
   ·exact ⟨_, _, hk⟩
   ·split at hk
    ·exact aPutO_ex hk
    ·exact aGrowO_ex hk
  ·split at hk
   ·exact ⟨_, _, hk⟩
   ·exact aGrow_ex hk
  ·exact hk.elim
 ·exact hk.elim
theorem aApzY_ex {e z x k} {ob : List AObj} {K : MK} (hk : aApzY e z x k ob K) : ∃ r ob', K r ob' := by
 unfold aApzY at hk
 split at hk
 ·exact aGrowO_ex hk.2.2
 ·exact aGrow_ex hk.2
 ·exact hk.elim
theorem aCpyY_ex {e d m ys} {ob : List AObj} {K : MK} (hk : aCpyY e d m ys ob K) : ∃ r ob', K r ob' := by
 unfold aCpyY at hk
 split at hk
 ·split at hk
  ·exact ⟨_, _, hk⟩
  ·exact aPutO_ex hk
 ·exact hk.elim
theorem aClrX_ex {z x} {ob : List AObj} {K : MK} (hk : aClrX z x ob K) : ∃ r ob', K r ob' := by
 unfold aClrX at hk
 split at hk
 ·split at hk
  ·exact ⟨_, _, hk⟩
  ·exact aPutO_ex hk
 ·exact hk.elim
theorem MStep_ex {m : MOp} {ps : List PV} {ob : List AObj} {K : MK} (hk : MStep m ps ob K) : ∃ r ob', K r ob' := by
 unfold MStep at hk
 split at hk
 ·exact ⟨_, _, hk⟩
 ·unfold mGetO at hk
  split at hk
  ·unfold mGetP at hk
   split at hk <;> exact ⟨_, _, hk⟩
  ·exact hk.elim
 ·unfold mSetO at hk
  split at hk
  ·unfold mSetP at hk
   split at hk <;> exact ⟨_, _, hk⟩
  ·exact hk.elim
 ·unfold mDelO at hk
  split at hk
  ·exact ⟨_, _, hk⟩
  ·exact hk.elim
 ·unfold mLenO at hk
  split at hk
  ·exact ⟨_, _, hk⟩
  ·exact hk.elim
 ·unfold mRngO at hk
  split at hk
  ·exact ⟨_, _, hk⟩
  ·exact hk.elim
 ·unfold mNxtO at hk
  split at hk
  ·unfold mNxtM at hk
   split at hk
   ·rename_i c es _
    cases he : mLeft _ es with
    | nil => exact ⟨_, _, hk.2.2.1 he⟩
    | cons e r => exact ⟨_, _, hk.2.2.2 e (by rw [he]; simp)⟩
   ·exact hk.elim
  ·exact hk.elim
 ·unfold mEntO at hk
  split at hk
  ·unfold mEntM at hk
   split at hk
   ·have h2 := hk.2
    unfold mEntE at h2
    split at h2
    ·exact ⟨_, _, h2⟩
    ·exact h2.elim
   ·exact hk.elim
  ·exact hk.elim
 ·exact aAppY_ex hk
 ·exact aApzY_ex hk
 ·exact aCpyY_ex hk
 ·exact aClrX_ex hk
 ·exact hk.elim
open Go.RowKit
def GlobOk (w : World) : Prop := w.cell? ⟨0, 0, none⟩ = some (.iface 272 (.agg #[.pointer (some ⟨1, 27, none⟩)]))
theorem GlobOk.pos {w : World} (h : GlobOk w) : 0 < w.heap.size := by
 rcases Nat.eq_zero_or_pos w.heap.size with h0 | h1
 ·simp [GlobOk, World.cell?, h0] at h
 ·exact h1
theorem GlobOk.below {w w' : World} (h : GlobOk w) (hb : Below w.heap.size w w') : GlobOk w' := by
 have e := hb.block 0 h.pos
 simpa [GlobOk, World.cell?, e] using h
end Go.Proofs.YtdgpiobmncohjaaGreatDoor.Aw
