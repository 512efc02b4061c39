/-
 What comes in reads as abstract values of the right shape, whatever it is.; Regions whose order is drawn: where all that may be swapped commutes, the text's order tells all orders.
-/
import Derived.Test.YtdgpiobmncohjaaGreatDoorKak
import Derived.Deep.Slices
import Derived.Test.YtdgpiobmncohjaaGreatDoorKaj
set_option linter.all false
namespace Go.Proofs.YtdgpiobmncohjaaGreatDoor.Aw
open Go.ChangeShapes Go.WideShapes Go.ChangeAt Go.RowKit
inductive Sh where
 | int (k : IntKind)
 | bool
 | str
 | sl (e : Sh)
 | st (fs : List Sh)
 | arr (n : Nat) (e : Sh)
mutual
def Sh.n : Sh → Nat
 | .int _ | .bool | .str | .sl _ => 1
 | .st fs => shN fs
 | .arr n e => n * e.n
def shN : List Sh → Nat
 | [] => 0
 | s :: r => s.n + shN r
end
mutual
def Sh.of (P : Program) : Sh → TypeId → Bool
 | .int k, t => match P.underlying t with
  | some (.int k') => decide (k' = k)
  | _ => false
 | .bool, t => match P.underlying t with
  | some .bool => true
  | _ => false
 | .str, t => match P.underlying t with
  | some .string => true
  | _ => false
 | .sl e, t => match P.underlying t with
  | some (.slice te) => e.of P te && (decide (P.cellsOf te = e.n) && decide (0 < e.n))
  | _ => false
 | .st fs, t => match P.underlying t with
  | some (.struct fds) => ofL' P fs fds.toList 0 && decide (P.cellsOf t = shN fs)
  | _ => false
 | .arr n e, t => match P.underlying t with
  | some (.array m te) => decide (m = n) && (e.of P te && (decide (P.cellsOf te = e.n) && decide (P.cellsOf t = n * e.n)))
  | _ => false
def ofL' (P : Program) : List Sh → List Field → Nat → Bool
 | [], [], _ => true
 | s :: r, f :: fr, off => s.of P f.type && (decide (f.offset = off) && (decide (P.cellsOf f.type = s.n) && ofL' P r fr (off + s.n)))
 | _, _, _ => false
end
mutual
/-- Cells of a shape. -/
def Sh.fit : Sh → List PV → Prop
 | .int k, cs => ∃ n, cs = [.int k n] ∧ (Lit.int k n).wf = true
 | .bool, cs => ∃ b, cs = [.bool b]
 | .str, cs => ∃ s : List UInt8, cs = [.str s] ∧ s.length ≤ maxLen
 | .sl e, cs => ∃ rows : List (List PV), cs = [.slc rows] ∧ rows.length ≤ maxLen ∧ ∀ r ∈ rows, e.fit r
 | .st fs, cs => fitL fs cs
 | .arr n e, cs => ∃ parts : List (List PV), cs = parts.flatten ∧ parts.length = n ∧ ∀ p ∈ parts, e.fit p
def fitL : List Sh → List PV → Prop
 | [], cs => cs = []
 | s :: r, cs => ∃ a b, cs = a ++ b ∧ s.fit a ∧ fitL r b
end
theorem flat_len {n : Nat} : ∀ (rows : List (List PV)), (∀ r ∈ rows, r.length = n) → rows.flatten.length = rows.length * n
 | [], _ => by simp
 | r :: rs, h => by
  rw [List.flatten_cons, List.length_append, flat_len rs (fun x hx => h x (List.mem_cons_of_mem _ hx)), h r (by simp), List.length_cons, Nat.add_mul]; omega
mutual
theorem fit_len : ∀ (s : Sh) (cs : List PV), s.fit cs → cs.length = s.n
 | .int k, cs, h => by obtain ⟨n, rfl, _⟩ := h; rfl
 | .bool, cs, h => by obtain ⟨b, rfl⟩ := h; rfl
 | .str, cs, h => by obtain ⟨b, rfl, _⟩ := h; rfl
 | .sl e, cs, h => by
  obtain ⟨rows, rfl, _⟩ := h
  rfl
 | .st fs, cs, h => fitL_len fs cs h
 | .arr n e, cs, h => by
  obtain ⟨parts, rfl, h1, h2⟩ := h
  rw [flat_len parts fun p hp => fit_len e p (h2 p hp), h1]; rfl
theorem fitL_len : ∀ (fs : List Sh) (cs : List PV), fitL fs cs → cs.length = shN fs
 | [], cs, h => by rw [show cs = [] from h]; rfl
 | s :: r, cs, h => by
  obtain ⟨a, b, rfl, h1, h2⟩ := h
  rw [List.length_append, fit_len s a h1, fitL_len r b h2]; rfl
end
theorem list_of {α : Type} (Q : Nat → α → Prop) : ∀ n, (∀ i, i < n → ∃ a, Q i a) → ∃ l : List α, l.length = n ∧ ∀ i a, l[i]? = some a → Q i a
 | 0, _ => ⟨[], rfl, fun i a h => by simp at h⟩
 | n + 1, h => by
  obtain ⟨l, h1, h2⟩ := list_of Q n fun i hi => h i (by omega)
  obtain ⟨a, ha⟩ := h n (by omega)
  refine ⟨l ++ [a], by simp [h1], fun i b hb => ?_⟩
  rw [List.getElem?_append] at hb
  split at hb
  ·exact h2 i b hb
  ·rename_i hlt
   have hi := (List.getElem?_eq_some_iff.1 hb).1
   simp at hi
   have : i = n := by omega
   subst this
   rw [h1, Nat.sub_self] at hb
   simp at hb; subst hb; exact ha
theorem flatten_get {α : Type} {n : Nat} (hn : 0 < n) : ∀ (rows : List (List α)), (∀ r ∈ rows, r.length = n) → ∀ j, rows.flatten[j]? = (rows[j / n]?).bind fun r => r[j % n]?
 | [], _, j => by simp
 | r :: rs, h, j => by
  rw [List.flatten_cons, List.getElem?_append, h r (by simp)]
  by_cases hj : j < n
  ·rw [if_pos hj, Nat.div_eq_of_lt hj, Nat.mod_eq_of_lt hj]; simp
  ·rw [if_neg hj, flatten_get hn rs (fun x hx => h x (List.mem_cons_of_mem _ hx))]
   obtain ⟨k, rfl⟩ : ∃ k, j = k + n := ⟨j - n, by omega⟩
   rw [Nat.add_sub_cancel, Nat.add_div_right _ hn, Nat.add_mod_right]; simp
theorem mapM_range {α : Type} {f : Nat → Option α} {n : Nat} {l : List α} (h : (List.range n).mapM f = some l) : l.length = n ∧ ∀ i, i < n → f i = l[i]? := by
 have h1 := mapM_length _ _ _ h
 refine ⟨by simpa using h1, fun i hi => ?_⟩
 have hil : i < l.length := by rw [h1]; simpa using hi
 obtain ⟨x, h2, h3⟩ := mapM_get _ _ _ h i l[i] (List.getElem?_eq_getElem hil)
 rw [List.getElem?_range hi] at h2
 simp only [Option.some.injEq] at h2; subst h2
 rw [h3, List.getElem?_eq_getElem hil]
section
variable {H : Type} {enc : TypeId × Value → H} {P : Program} {w : World} {base : Nat} {spare : Nat → Bool} {held : Bool}
theorem trod_fit : ∀ (fuel : Nat) (s : Sh) (t : TypeId) (cs : List Value) (x : DataW H × List MemPlace), s.of P t = true → DataW.trod enc P w base spare held fuel t cs = some x →
  ∃ ps, RL w (fun b => b < w.heap.size) (fun _ => none) ps cs ∧ s.fit ps ∧ ∀ v ∈ cs, v.oneCell' = true
 | 0, s, t, cs, x, _, h => by simp [DataW.trod] at h
 | fuel + 1, .int k, t, cs, x, ho, h => by
  simp only [Sh.of] at ho
  split at ho
  ·rename_i k' hu
   simp only [decide_eq_true_eq] at ho; subst ho
   unfold DataW.trod at h
   rcases cs with _ | ⟨v, _ | ⟨v2, cs⟩⟩ <;> simp only [hu] at h <;> try (cases h; done)
   cases v <;> simp only [] at h <;> try (cases h; done)
   rename_i k2 n
   split at h
   ·rename_i hc
    obtain ⟨rfl, hw⟩ := hc
    exact ⟨[.int _ n], .one (.int _ _), ⟨n, rfl, hw⟩, by simp [Value.oneCell']⟩
   ·cases h
  ·cases ho
 | fuel + 1, .bool, t, cs, x, ho, h => by
  simp only [Sh.of] at ho
  split at ho
  ·rename_i hu
   unfold DataW.trod at h
   rcases cs with _ | ⟨v, _ | ⟨v2, cs⟩⟩ <;> simp only [hu] at h <;> try (cases h; done)
   cases v <;> simp only [] at h <;> try (cases h; done)
   rename_i b
   exact ⟨[.bool b], .one (.bool _), ⟨b, rfl⟩, by simp [Value.oneCell']⟩
  ·cases ho
 | fuel + 1, .str, t, cs, x, ho, h => by
  simp only [Sh.of] at ho
  split at ho
  ·rename_i hu
   unfold DataW.trod at h
   rcases cs with _ | ⟨v, _ | ⟨v2, cs⟩⟩ <;> simp only [hu] at h <;> try (cases h; done)
   cases v <;> simp only [] at h <;> try (cases h; done)
   rename_i b
   split at h
   ·rename_i hc
    exact ⟨[.str b.data.toList], .one (R1.string b), ⟨_, rfl, by simpa using hc⟩, by simp [Value.oneCell']⟩
   ·cases h
  ·cases ho
 | fuel + 1, .sl e, t, cs, x, ho, h => by
  simp only [Sh.of] at ho
  split at ho
  ·rename_i te hu
   simp only [Bool.and_eq_true, decide_eq_true_eq] at ho
   obtain ⟨ho1, hce, hpos⟩ := ho
   unfold DataW.trod at h
   rcases cs with _ | ⟨v, _ | ⟨v2, cs⟩⟩ <;> simp only [hu] at h <;> try (cases h; done)
   cases v <;> try (cases h; done)
   rename_i ad len cap
   cases ad with
   | none =>
    have h0 : len = 0 ∧ cap = 0 := by
     cases len <;> cases cap <;> first | exact ⟨rfl, rfl⟩ | cases h
    obtain ⟨rfl, rfl⟩ := h0
    exact ⟨[.slc []], .one (.slc0 _ _), ⟨[], rfl, Nat.zero_le _, fun r hr => by cases hr⟩, by simp [Value.oneCell']⟩
   | some a =>
    simp only [] at h
    split at h
    ·rename_i hcond
     obtain ⟨hbase, hlc, hcm⟩ := hcond
     simp only [Option.bind_eq_some_iff] at h
     obtain ⟨elems, hel, h⟩ := h
     obtain ⟨hl1, hl2⟩ := mapM_range hel
     by_cases hlen : len = 0
     ·subst hlen
      exact ⟨[.slc []], .one (.slc0 _ _), ⟨[], rfl, Nat.zero_le _, fun r hr => by cases hr⟩, by simp [Value.oneCell']⟩
     ·have hQ : ∀ i, i < len → ∃ q : List PV × List Value, w.cells? base (a.add (i * P.cellsOf te)) (P.cellsOf te) = some q.2 ∧ RL w (fun b => b < w.heap.size) (fun _ => none) q.1 q.2 ∧ e.fit q.1 ∧ ∀ v ∈ q.2, v.oneCell' = true := by
       intro i hi
       have h1 := hl2 i hi
       rw [List.getElem?_eq_getElem (by omega)] at h1
       obtain ⟨cs', g1, g2⟩ := Option.bind_eq_some_iff.1 h1
       obtain ⟨ps, g3, g4, g5⟩ := trod_fit fuel e te cs' _ ho1 g2
       exact ⟨(ps, cs'), g1, g3, g4, g5⟩
      obtain ⟨l, hll, hlq⟩ := list_of _ len hQ
      have hq : ∀ i (hi : i < len), (l[i]'(by omega)).1.length = e.n ∧ ∀ k v, (l[i]'(by omega)).2[k]? = some v → w.cell? ((a.add (i * e.n)).add k) = some v := by
       intro i hi
       obtain ⟨g1, g2, g3, g4⟩ := hlq i _ (List.getElem?_eq_getElem (by omega))
       refine ⟨fit_len e _ g3, fun k v hv => ?_⟩
       unfold World.cells? at g1
       split at g1
       ·obtain ⟨k1, k2⟩ := mapM_range g1
        have hk : k < P.cellsOf te := by
         have := (List.getElem?_eq_some_iff.1 hv).1; omega
        rw [← hce, k2 k hk, hv]
       ·cases g1
      have hrlen : ∀ r ∈ l.map (·.1), r.length = e.n := by
       intro r hr
       obtain ⟨q, hqm, rfl⟩ := List.mem_map.1 hr
       obtain ⟨i, hi, rfl⟩ := List.mem_iff_getElem.1 hqm
       exact (hq i (by omega)).1
      have hvlen : ∀ r ∈ l.map (·.2), r.length = e.n := by
       intro r hr
       obtain ⟨q, hqm, rfl⟩ := List.mem_map.1 hr
       obtain ⟨i, hi, rfl⟩ := List.mem_iff_getElem.1 hqm
       obtain ⟨g1, g2, g3, g4⟩ := hlq i _ (List.getElem?_eq_getElem hi)
       rw [← g2.1]; exact fit_len e _ g3
      -- the block
      have hcell : ∀ j v, (l.map (·.2)).flatten[j]? = some v → w.cell? (a.add j) = some v := by
       intro j v hv
       rw [flatten_get hpos _ hvlen, List.getElem?_map] at hv
       have hjl : j / e.n < l.length := by
        rcases Nat.lt_or_ge (j / e.n) l.length with h' | h'
        ·exact h'
        ·rw [List.getElem?_eq_none h'] at hv; cases hv
       rw [List.getElem?_eq_getElem hjl] at hv
       simp only [Option.map_some, Option.bind_some] at hv
       have := (hq (j / e.n) (by omega)).2 (j % e.n) v hv
       rw [Deep.add_add, Nat.mul_comm, Nat.div_add_mod] at this
       exact this
      have hfl : (l.map (·.2)).flatten.length = len * e.n := by
       have hvl : ∀ (L : List (List Value)), (∀ r ∈ L, r.length = e.n) → L.flatten.length = L.length * e.n := by
        intro L
        induction L with
        | nil => intro _; simp
        | cons r rs ih => intro hh; rw [List.flatten_cons, List.length_append, ih (fun x hx => hh x (List.mem_cons_of_mem _ hx)), hh r (by simp), List.length_cons, Nat.add_mul]; omega
       rw [hvl _ hvlen]; simp [hll]
      have hfpos : 0 < (l.map (·.2)).flatten.length := by rw [hfl]; exact Nat.mul_pos (by omega) hpos
      have hc0 := hcell 0 _ (List.getElem?_eq_getElem hfpos)
      have hadd0 : a.add 0 = a := by simp [Addr.add]
      rw [hadd0] at hc0
      obtain ⟨b, off, spot⟩ := a
      unfold World.cell? at hc0
      simp only [] at hc0
      split at hc0
      ·rename_i cc et fr hbk
       split at hc0
       ·cases hc0
       ·rename_i hspot
        have hs : spot = none := by
         cases spot with
         | none => rfl
         | some y => simp at hspot
        subst hs
        have hblt : b < w.heap.size := lt_of_cells hbk
        have hrne : l.map (·.1) ≠ [] := by
         intro h0
         have := congrArg List.length h0
         simp at this; simp [this] at hll; omega
        have hone : ∀ v ∈ (l.map (·.2)).flatten, v.oneCell' = true := by
         intro v hv
         obtain ⟨r, hr, hvr⟩ := List.mem_flatten.1 hv
         obtain ⟨q, hqm, rfl⟩ := List.mem_map.1 hr
         obtain ⟨i, hi, rfl⟩ := List.mem_iff_getElem.1 hqm
         exact (hlq i _ (List.getElem?_eq_getElem hi)).2.2.2 v hvr
        refine ⟨[.slc (l.map (·.1))], .one ?_, ⟨_, rfl, by simp; omega, ?_⟩, by simp [Value.oneCell']⟩
        ·have hlr : (l.map (·.1)).length = len := by simpa using hll
         rw [← hlr]
         refine .slcN (cv := (l.map (·.2)).flatten) hrne (by omega) hblt ⟨⟨cc, et, fr, hbk, fun j hj => ?_⟩, hone⟩ hrlen ?_ ?_
         ·have := hcell j _ (List.getElem?_eq_getElem hj)
          rw [Addr.add_lit, cell_of_block hbk] at this
          rw [this, List.getElem?_eq_getElem hj]
         ·rw [flat_len _ hrlen, hfl]; simp [hll]
         ·intro j p v hp hv
          rw [flatten_get hpos _ hrlen, List.getElem?_map] at hp
          rw [flatten_get hpos _ hvlen, List.getElem?_map] at hv
          cases hlj : l[j / e.n]? with
          | none => rw [hlj] at hp; cases hp
          | some q =>
           rw [hlj] at hp hv
           simp only [Option.map_some, Option.bind_some] at hp hv
           exact (hlq _ _ hlj).2.1.2 _ _ _ hp hv
        ·intro r hr
         obtain ⟨q, hqm, rfl⟩ := List.mem_map.1 hr
         obtain ⟨i, hi, rfl⟩ := List.mem_iff_getElem.1 hqm
         exact (hlq i _ (List.getElem?_eq_getElem hi)).2.2.1
      ·cases hc0
    ·cases h
  ·cases ho
 | fuel + 1, .st fs, t, cs, x, ho, h => by
  simp only [Sh.of] at ho
  split at ho
  ·rename_i fds hu
   simp only [Bool.and_eq_true, decide_eq_true_eq] at ho
   obtain ⟨ho1, hct⟩ := ho
   unfold DataW.trod at h
   simp only [hu] at h
   split at h
   ·rename_i hlen
    simp only [Option.map_eq_some_iff] at h
    obtain ⟨xs, hxs, _⟩ := h
    have key : ∀ (sl : List Sh) (fl : List Field) (off : Nat) (xs : List (DataW H × List MemPlace)), ofL' P sl fl off = true → (fl.mapM fun f => DataW.trod enc P w base spare held fuel f.type ((cs.drop f.offset).take (P.cellsOf f.type))) = some xs → off + shN sl ≤ cs.length →
      ∃ ps, RL w (fun b => b < w.heap.size) (fun _ => none) ps ((cs.drop off).take (shN sl)) ∧ fitL sl ps ∧ ∀ v ∈ (cs.drop off).take (shN sl), v.oneCell' = true := by
     intro sl
     induction sl with
     | nil =>
      intro fl off xs hofl hm hle
      exact ⟨[], by rw [show shN [] = 0 from rfl, List.take_zero]; exact RL.nil, rfl, by rw [show shN [] = 0 from rfl]; simp⟩
     | cons s r ih =>
      intro fl off xs hofl hm hle
      cases fl with
      | nil => simp [ofL'] at hofl
      | cons f fr =>
       simp only [ofL', Bool.and_eq_true, decide_eq_true_eq] at hofl
       obtain ⟨h1, h2, h3, h4⟩ := hofl
       simp only [List.mapM_cons, Option.bind_eq_bind, Option.pure_def, Option.bind_eq_some_iff, Option.some.injEq] at hm
       obtain ⟨y, hy, ys, hys, rfl⟩ := hm
       rw [h2, h3] at hy
       have hsn : shN (s :: r) = s.n + shN r := rfl
       rw [hsn] at hle
       obtain ⟨ps1, g1, g2, g3⟩ := trod_fit fuel s f.type _ y h1 hy
       obtain ⟨ps2, g4, g5, g6⟩ := ih fr (off + s.n) ys h4 hys (by omega)
       have hsplit : (cs.drop off).take (s.n + shN r) = (cs.drop off).take s.n ++ (cs.drop (off + s.n)).take (shN r) := by
        rw [List.take_add, List.drop_drop]
       rw [hsn, hsplit]
       refine ⟨ps1 ++ ps2, g1.append g4, ⟨ps1, ps2, rfl, g2, g5⟩, fun v hv => ?_⟩
       rcases List.mem_append.1 hv with hv | hv
       ·exact g3 v hv
       ·exact g6 v hv
    obtain ⟨ps, g1, g2, g3⟩ := key fs fds.toList 0 xs ho1 hxs (by omega)
    rw [List.drop_zero, List.take_of_length_le (by omega)] at g1 g3
    exact ⟨ps, g1, g2, g3⟩
   ·cases h
  ·cases ho
 | fuel + 1, .arr n e, t, cs, x, ho, h => by
  simp only [Sh.of] at ho
  split at ho
  ·rename_i m te hu
   simp only [Bool.and_eq_true, decide_eq_true_eq] at ho
   obtain ⟨rfl, ho1, hce, hct⟩ := ho
   unfold DataW.trod at h
   simp only [hu] at h
   split at h
   ·rename_i hlen
    simp only [Option.map_eq_some_iff] at h
    obtain ⟨xs, hxs, _⟩ := h
    obtain ⟨hl1, hl2⟩ := mapM_range hxs
    rw [hce] at hl2
    have key : ∀ k, k ≤ m → ∃ parts : List (List PV), RL w (fun b => b < w.heap.size) (fun _ => none) parts.flatten (cs.take (k * e.n)) ∧ parts.length = k ∧ (∀ p ∈ parts, e.fit p) ∧ ∀ v ∈ cs.take (k * e.n), v.oneCell' = true := by
     intro k
     induction k with
     | zero => intro _; exact ⟨[], by simp; exact RL.nil, rfl, by simp, by simp⟩
     | succ k ih =>
      intro hk
      obtain ⟨parts, g1, g2, g3, g4⟩ := ih (by omega)
      have hk2 := hl2 k (by omega)
      rw [List.getElem?_eq_getElem (by omega)] at hk2
      obtain ⟨ps, f1, f2, f3⟩ := trod_fit fuel e te _ _ ho1 hk2
      have hsplit : cs.take ((k + 1) * e.n) = cs.take (k * e.n) ++ (cs.drop (k * e.n)).take e.n := by rw [Nat.add_mul, Nat.one_mul, List.take_add]
      rw [hsplit]
      refine ⟨parts ++ [ps], by simpa using g1.append f1, by simp [g2], fun p hp => ?_, fun v hv => ?_⟩
      ·rcases List.mem_append.1 hp with hp | hp
       ·exact g3 p hp
       ·simp at hp; subst hp; exact f2
      ·rcases List.mem_append.1 hv with hv | hv
       ·exact g4 v hv
       ·exact f3 v hv
    obtain ⟨parts, g1, g2, g3, g4⟩ := key m (Nat.le_refl _)
    rw [List.take_of_length_le (by omega)] at g1 g4
    exact ⟨parts.flatten, g1, ⟨parts, rfl, g2, g3⟩, g4⟩
   ·cases h
  ·cases ho
def Sh.fitV : Sh → PV → Prop
 | .st fs, p => ∃ cs, p = .agg cs ∧ fitL fs cs
 | .arr n e, p => ∃ cs, p = .agg cs ∧ (Sh.arr n e).fit cs
 | s, p => s.fit [p]
theorem arg_fit {s : Sh} {t : TypeId} {v : Value} {d : DataW H} {p : List MemPlace} {r : Reach} {b : Nat} (ho : s.of P t = true) (hval : Value.okWide P w r b t v) (h : DataW.Trod enc P w base spare held t v d p) :
  ∃ pv, R1 w (fun b => b < w.heap.size) (fun _ => none) pv v ∧ s.fitV pv := by
 obtain ⟨fuel, hf⟩ := h
 obtain ⟨ps, h1, h2, _⟩ := trod_fit fuel s t _ _ ho hf
 have one : (∀ cs, v ≠ .agg cs) → (∀ pv, s.fit [pv] → s.fitV pv) → s.n = 1 → ∃ pv, R1 w (fun b => b < w.heap.size) (fun _ => none) pv v ∧ s.fitV pv := by
  intro hv hfv hn
  have hc : v.cells.toList = [v] := by
   cases v <;> first | rfl | exact absurd rfl (hv _)
  rw [hc] at h1
  have hl := fit_len s ps h2
  match ps, hl with
  | [pv], _ => exact ⟨pv, h1.uncons.1, hfv pv h2⟩
  | [], hl => rw [hn] at hl; cases hl
  | _ :: _ :: _, hl => rw [hn] at hl; simp at hl
 cases s with
 | int k =>
  simp only [Sh.of] at ho
  split at ho
  ·rename_i k' hu
   refine one (fun cs hv => ?_) (fun pv h => h) rfl
   subst hv
   simp [Value.okWide, Cell.okWide, Cell.ok, hu] at hval
  ·cases ho
 | bool =>
  simp only [Sh.of] at ho
  split at ho
  ·rename_i hu
   refine one (fun cs hv => ?_) (fun pv h => h) rfl
   subst hv
   simp [Value.okWide, Cell.okWide, Cell.ok, hu] at hval
  ·cases ho
 | str =>
  simp only [Sh.of] at ho
  split at ho
  ·rename_i hu
   refine one (fun cs hv => ?_) (fun pv h => h) rfl
   subst hv
   simp [Value.okWide, Cell.okWide, Cell.ok, hu] at hval
  ·cases ho
 | sl e =>
  simp only [Sh.of] at ho
  split at ho
  ·rename_i te hu
   refine one (fun cs hv => ?_) (fun pv h => h) rfl
   subst hv
   simp [Value.okWide, Cell.okWide, Cell.ok, hu] at hval
  ·cases ho
 | st fs =>
  simp only [Sh.of] at ho
  split at ho
  ·rename_i fds hu
   simp only [Value.okWide, hu] at hval
   obtain ⟨cs, rfl, _⟩ := hval
   refine ⟨.agg ps, ?_, ps, rfl, h2⟩
   have := R1.mkAgg h1
   rwa [show (Value.agg cs).cells = cs from rfl, Array.toArray_toList] at this
  ·cases ho
 | arr n e =>
  simp only [Sh.of] at ho
  split at ho
  ·rename_i m te hu
   simp only [Value.okWide, hu] at hval
   obtain ⟨cs, rfl, _⟩ := hval
   refine ⟨.agg ps, ?_, ps, rfl, h2⟩
   have := R1.mkAgg h1
   rwa [show (Value.agg cs).cells = cs from rfl, Array.toArray_toList] at this
  ·cases ho
def fitVs : List Sh → List PV → Prop
 | [], ps => ps = []
 | s :: r, ps => ∃ p q, ps = p :: q ∧ s.fitV p ∧ fitVs r q
def ofAll (P : Program) : List Sh → List TypeId → Bool
 | [], [] => true
 | s :: r, t :: ts => s.of P t && ofAll P r ts
 | _, _ => false
theorem args_fit {r : Reach} {b : Nat} : ∀ (shs : List Sh) (ts : List TypeId) (vs : List Value) (ds : List (DataW H)) (pl : List MemPlace), ofAll P shs ts = true → (∀ (j : Nat) t v, ts[j]? = some t → vs[j]? = some v → Value.okWide P w r b t v) → DataW.TrodAll enc P w base spare held ts vs ds pl →
  ∃ ps, RL w (fun b => b < w.heap.size) (fun _ => none) ps vs ∧ fitVs shs ps ∧ ds.length = shs.length
 | [], [], [], [], pl, _, _, _ => ⟨[], RL.nil, rfl, rfl⟩
 | s :: shs, t :: ts, v :: vs, d :: ds, pl, ho, hv, h => by
  simp only [ofAll, Bool.and_eq_true] at ho
  obtain ⟨p, q, h1, h2, _⟩ := h
  obtain ⟨pv, g1, g2⟩ := arg_fit ho.1 (hv 0 t v rfl rfl) h1
  obtain ⟨ps, g3, g4, g5⟩ := args_fit shs ts vs ds q ho.2 (fun j t' v' ht hv' => hv (j + 1) t' v' (by simpa using ht) (by simpa using hv')) h2
  exact ⟨pv :: ps, RL.cons g1 g3, ⟨pv, ps, rfl, g2, g4⟩, by simp [g5]⟩
 | [], [], _ :: _, _, _, _, _, h => by cases h
 | [], [], [], _ :: _, _, _, _, h => by cases h
 | [], _ :: _, _, _, _, h, _, _ => by cases h
 | _ :: _, [], _, _, _, h, _, _ => by cases h
 | _ :: _, _ :: _, [], _, _, _, _, h => by cases h
 | _ :: _, _ :: _, _ :: _, [], _, _, _, h => by cases h
theorem closes_sh {fn : Func} {s : ChangeSpec} {f : Nat} {W : World} {b : Nat} {r : Reach} {args : Array Value} {ds gs : List (DataW H)} {before : List MemPlace} {t : TypeId} (shs : List Sh) (hl : laidOutB P = true)
  (hval : ∀ (j : Nat) t v, fn.params[j]? = some t → args[j]? = some v → Value.okWide P W r b t v)
  (hW : DataW.Whole enc P fn.params.toList s.vars false W args.toList ds gs before) (hts : (fn.params.toList.all fun t => P.readableRec t && decide (t < P.types.size)) = true) (hvars : s.vars = []) (hres : fn.resultTypes = #[t])
  (ht : P.underlying t = some .bool) (hs : ds.length = shs.length → gs = [] → s.fn H (ds ++ gs) = { results := [.lit (.bool true)], args := ds }) (hsh : ofAll P shs fn.params.toList = true) (hp : ∀ ps, fitVs shs ps → PCall P f ps (.bool true)) (hg : GlobOk W := by trivial) :
  Calls P f args W fun e W' => ∃ v, e = .returned v ∧ s.post enc P fn false true false false W args v W' := by
 have hW' := hW
 obtain ⟨p, q, hA, hV, hpq, hfz, hnd⟩ := hW
 obtain ⟨ps, h1, h2, h3⟩ := args_fit shs fn.params.toList args.toList ds p hsh (fun j t v h1 h2 => hval j t v (by simpa using h1) (by simpa using h2)) hA
 exact closes hl hW' hts hvars hres ht (hs h3) (fun _ h => h) h1 (hp ps h2) hg
end
open Go.RowKit
def AX.looks : AX → List Nat
 | .t i => [i]
 | .k _ => []
def looksO : Option AX → List Nat
 | none => []
 | some x => x.looks
def looksL (l : List AX) : List Nat := l.flatMap AX.looks
def AO.looks : AO → List Nat
 | .mv x => x.looks
 | .pick c a b => c.looks ++ (a.looks ++ b.looks)
 | .alloc _ => []
 | .box x => x.looks
 | .build _ ps => ps.flatMap fun p => p.2.2.looks
 | .blds _ _ _ ps => ps.flatMap fun p => p.2.looks
 | .load _ a => a.looks
 | .store _ a x => a.looks ++ x.looks
 | .nilck x => x.looks
 | .bin _ x y => x.looks ++ y.looks
 | .eqs _ _ x y => x.looks ++ y.looks
 | .eqb _ x y => x.looks ++ y.looks
 | .un _ x => x.looks
 | .conv _ x => x.looks
 | .b2s x => x.looks
 | .s2b _ x => x.looks
 | .faddr _ x => x.looks
 | .fld _ _ x => x.looks
 | .iarr _ _ x i => x.looks ++ i.looks
 | .isl _ x i => x.looks ++ i.looks
 | .idxs x i => x.looks ++ i.looks
 | .idxa _ _ _ x i => x.looks ++ i.looks
 | .sstr x a b => x.looks ++ (looksO a ++ looksO b)
 | .ssl _ x a b => x.looks ++ (looksO a ++ looksO b)
 | .sarr _ _ x a b => x.looks ++ (looksO a ++ looksO b)
 | .ext _ x => x.looks
 | .mkfn _ a b => looksL a ++ looksL b
 | .mki _ x => x.looks
 | .tas _ x => x.looks
 | .lenc _ => []
 | .lens x => x.looks
 | .len x => x.looks
 | .app _ _ _ x y => x.looks ++ y.looks
 | .apps _ x y => x.looks ++ y.looks
 | .balloc _ _ => []
 | .usd x => x.looks
 | .ust _ x y => x.looks ++ y.looks
 | .fail => []
 | .icall _ xs => looksL xs
 | .icallv f xs => f.looks ++ looksL xs
 | .icalli _ x xs => x.looks ++ looksL xs
 | .mm _ xs => looksL xs
 | .mks _ _ _ x y => x.looks ++ y.looks
 | .nilown _ => []
 | .nilsl _ x => x.looks
 | .isn _ _ x => x.looks
 | .call _ _ xs => looksL xs
 | .callv f xs => f.looks ++ looksL xs
 | .mop _ xs => looksL xs
 | .rcall _ xs => looksL xs
 | .arr _ xs => looksL xs
 | .alit _ _ ps => ps.flatMap fun p => p.2.looks
 | .ecall _ xs => looksL xs
 | .rcalli _ x xs => x.looks ++ looksL xs
def AO.pure : AO → Bool
 | .mv _ | .pick .. | .build .. | .nilck _ | .bin .. | .eqs .. | .eqb .. | .un .. | .conv .. | .faddr .. | .fld .. | .iarr .. | .idxs .. | .idxa .. | .sstr .. | .sarr .. | .ext .. | .mkfn .. | .mki .. | .tas .. | .lenc _ | .lens _ | .mm .. | .nilsl .. | .isn .. | .arr .. => true
 | _ => false
def AO.writes : AO → Bool
 | .store .. | .app .. | .apps .. | .balloc .. | .icall .. | .icallv .. | .icalli .. | .mop .. | .ecall .. => true
 | _ => false
def AO.news : AO → Bool
 | .alloc _ | .box _ | .nilown _ | .app .. | .alit .. => true
 | .blds own .. | .s2b own _ | .mks own .. | .call own .. => own
 | _ => false
def agreeOn (l : List Nat) (s s' : St) : Prop := ∀ t ∈ l, s'.sl t = s.sl t
section
variable {s s' : St}
theorem val_agree {x : AX} (h : agreeOn x.looks s s') : s'.val x = s.val x := by
 cases x with
 | t i => exact h i (by simp [AX.looks])
 | k v => rfl
theorem agree_left {a b : List Nat} (h : agreeOn (a ++ b) s s') : agreeOn a s s' := fun t ht => h t (List.mem_append_left _ ht)
theorem agree_right {a b : List Nat} (h : agreeOn (a ++ b) s s') : agreeOn b s s' := fun t ht => h t (List.mem_append_right _ ht)
theorem optI_agree {x : Option AX} (h : agreeOn (looksO x) s s') : optI s' x = optI s x := by
 cases x with
 | none => rfl
 | some x => simp only [optI]; rw [val_agree (show agreeOn x.looks s s' from h)]
theorem map_agree : ∀ {l : List AX}, agreeOn (looksL l) s s' → l.map s'.val = l.map s.val
 | [], _ => rfl
 | x :: r, h => by
  simp only [looksL, List.flatMap_cons] at h
  rw [List.map_cons, List.map_cons, val_agree (agree_left h), map_agree (l := r) (agree_right h)]
theorem fillA_agree : ∀ (ps : List (Nat × Nat × AX)) (z : List PV), agreeOn (ps.flatMap fun p => p.2.2.looks) s s' → fillA s' z ps = fillA s z ps
 | [], z, _ => rfl
 | (off, sz, x) :: r, z, h => by
  simp only [List.flatMap_cons] at h
  simp only [fillA]
  rw [val_agree (agree_left h)]
  split
  ·exact fillA_agree r _ (agree_right h)
  ·rfl
theorem fillR_agree {n : Nat} : ∀ (ps : List (Nat × AX)) (z : List (List PV)), agreeOn (ps.flatMap fun p => p.2.looks) s s' → fillR s' n z ps = fillR s n z ps
 | [], z, _ => rfl
 | (i, x) :: r, z, h => by
  simp only [List.flatMap_cons] at h
  simp only [fillR]
  rw [val_agree (agree_left h)]
  split
  ·exact fillR_agree r _ (agree_right h)
  ·rfl
theorem mkO_ob {nw : Option Nat} {a : AObj} (h : s'.ob = s.ob) : mkO s' nw a = mkO s nw a := by simp only [mkO, h]
def obAgree (forb : List Nat) (ob ob' : List AObj) : Prop := ∀ i, i ∉ forb → ob'[i]? = ob[i]?
theorem ldC_agree {forb : List Nat} {ob ob' : List AObj} (h : obAgree forb ob ob') (p : PV) (n : Nat) : ldC ob' forb p n = ldC ob forb p n := by
 cases p <;> simp only [ldC]
 ·rename_i o off
  by_cases hc : forb.contains o = true
  ·simp only [hc, if_true]
  ·rw [h o (by simpa using hc)]
 ·rename_i o i off len
  by_cases hc : forb.contains o = true
  ·simp only [hc, if_true]
  ·rw [h o (by simpa using hc)]
theorem rowsOf_agree {forb : List Nat} {ob ob' : List AObj} (h : obAgree forb ob ob') (p : PV) : rowsOf ob' forb p = rowsOf ob forb p := by
 cases p <;> simp only [rowsOf]
 ·rename_i o i n
  by_cases hc : forb.contains o = true
  ·simp only [hc, if_true]
  ·rw [h o (by simpa using hc)]
 ·rename_i o i n
  by_cases hc : forb.contains o = true
  ·simp only [hc, if_true]
  ·rw [h o (by simpa using hc)]
mutual
theorem snap_agree {forb : List Nat} {ob ob' : List AObj} (h : obAgree forb ob ob') : ∀ p, snap ob' forb p = snap ob forb p
 | .osl o i n => by simp only [snap, rowsOf_agree h]
 | .bsl o i n => by simp only [snap, rowsOf_agree h]
 | .ref o off => by
  simp only [snap]
  by_cases hc : forb.contains o = true
  ·simp only [hc, if_true]
  ·rw [h o (by simpa using hc)]
 | .lref .. => by simp only [snap]
 | .own .. => by simp only [snap]
 | .mp _ => by simp only [snap]
 | .asl .. => by simp only [snap]
 | .nilm => by simp only [snap]
 | .agg cs => by simp only [snap, snapL_agree h cs]
 | .tup cs => by simp only [snap, snapL_agree h cs]
 | .fn f a b => by simp only [snap, snapL_agree h a, snapL_agree h b]
 | .ifc t v => by simp only [snap, snap_agree h v]
 | .bot => by simp only [snap]
 | .int .. => by simp only [snap]
 | .bool _ => by simp only [snap]
 | .str _ => by simp only [snap]
 | .nils => by simp only [snap]
 | .slc _ => by simp only [snap]
 | .fptr _ => by simp only [snap]
 | .nilp => by simp only [snap]
 | .nilf => by simp only [snap]
 | .nili => by simp only [snap]
theorem snapL_agree {forb : List Nat} {ob ob' : List AObj} (h : obAgree forb ob ob') : ∀ ps, snapL ob' forb ps = snapL ob forb ps
 | [] => by simp only [snapL]
 | p :: r => by simp only [snapL, snap_agree h p, snapL_agree h r]
end
def appE (e : Option (Nat × AObj)) (ob : List AObj) : List AObj :=
 match e with
 | none => ob
 | some (i, a) => ob.set i a
theorem mkO_some {i j : Nat} {a : AObj} {ob : List AObj} (h : mkO s (some i) a = some (j, ob)) : j = i ∧ s.ob[i]? = some .none ∧ ob = s.ob.set i a := by
 simp only [mkO] at h
 split at h
 ·rename_i hk; cases h; exact ⟨rfl, hk, rfl⟩
 ·cases h
theorem mkO_at {i : Nat} {a : AObj} (h : s.ob[i]? = some .none) : mkO s (some i) a = some (i, s.ob.set i a) := by simp only [mkO, h]
theorem ev_looks {forb : List Nat} {nw : Option Nat} {ao : AO} (h : agreeOn ao.looks s s') (hob : s'.ob = s.ob) : ev forb nw s' ao = ev forb nw s ao := by
 cases ao <;> simp only [AO.looks] at h <;> simp only [ev]
 case mv x => rw [val_agree h, hob]
 case pick c a b => rw [val_agree (agree_left h), val_agree (agree_left (agree_right h)), val_agree (agree_right (agree_right h)), hob]
 case alloc z => rw [mkO_ob hob]
 case box x => rw [val_agree h, mkO_ob hob]
 case build z ps => rw [fillA_agree ps z h, hob]
 case blds own z n ps => rw [fillR_agree ps _ h]; simp only [mkO_ob hob, hob]
 case load n a => cases n <;> simp only [] <;> rw [val_agree h, hob]
 case store n a x => rw [val_agree (agree_left h), val_agree (agree_right h), hob]
 case nilck x => rw [val_agree h, hob]
 case bin op x y => rw [val_agree (agree_left h), val_agree (agree_right h), hob]
 case eqs neg ks x y => rw [val_agree (agree_left h), val_agree (agree_right h), hob]
 case eqb neg x y => rw [val_agree (agree_left h), val_agree (agree_right h), hob]
 case un op x => rw [val_agree h, hob]
 case conv k x => rw [val_agree h, hob]
 case b2s x => rw [val_agree h, hob]
 case s2b own x => rw [val_agree h]; simp only [mkO_ob hob, hob]
 case faddr off x => rw [val_agree h, hob]
 case fld n off x => rw [val_agree h, hob]
 case iarr e l x i => rw [val_agree (agree_left h), val_agree (agree_right h), hob]
 case isl e x i => rw [val_agree (agree_left h), val_agree (agree_right h), hob]
 case idxs x i => rw [val_agree (agree_left h), val_agree (agree_right h), hob]
 case idxa n e l x i => rw [val_agree (agree_left h), val_agree (agree_right h), hob]
 case sstr x a b => rw [val_agree (agree_left h), optI_agree (agree_left (agree_right h)), optI_agree (agree_right (agree_right h)), hob]
 case ssl e x a b => rw [val_agree (agree_left h), optI_agree (agree_left (agree_right h)), optI_agree (agree_right (agree_right h)), hob]
 case sarr e l x a b => rw [val_agree (agree_left h), optI_agree (agree_left (agree_right h)), optI_agree (agree_right (agree_right h)), hob]
 case ext i x => rw [val_agree h, hob]
 case mkfn f a b => rw [map_agree (agree_left h), map_agree (agree_right h), hob]
 case mki t x => rw [val_agree h, hob]
 case tas t x => rw [val_agree h, hob]
 case lenc n => rw [hob]
 case lens x => rw [val_agree h, hob]
 case len x => rw [val_agree h, hob]
 case app e b z x y => rw [val_agree (agree_left h), val_agree (agree_right h)]; simp only [mkO_ob hob, hob]
 case apps e x y => rw [val_agree (agree_left h), val_agree (agree_right h), hob]
 case balloc t u => rw [hob]
 case usd x => rw [val_agree h, hob]
 case ust e x y => rw [val_agree (agree_left h), val_agree (agree_right h), hob]
 case mm m xs => rw [map_agree h, hob]
 case mks own z b x y => rw [val_agree (agree_left h), val_agree (agree_right h)]; simp only [mkO_ob hob, hob]
 case nilown e => rw [mkO_ob hob]
 case nilsl neg x => rw [val_agree h, hob]
 case isn k neg x => rw [val_agree h, hob]
 case arr op xs => rw [map_agree h, hob]
 case alit z n ps => rw [fillR_agree ps _ h]; simp only [mkO_ob hob]
theorem ev_pure {forb : List Nat} {nw : Option Nat} {ao : AO} (hp : ao.pure = true) {v : PV} {ob' : List AObj} (h : ev forb nw s ao = some (v, ob')) (hl : agreeOn ao.looks s s') : ob' = s.ob ∧ ev forb nw s' ao = some (v, s'.ob) := by
 have h2 : ev forb nw ⟨s'.sl, s.ob⟩ ao = some (v, ob') := by
  rw [← h]; exact ev_looks (s := s) (s' := ⟨s'.sl, s.ob⟩) hl rfl
 have key : ∀ {g : Option PV}, g.map (fun v => (v, s.ob)) = some (v, ob') → ob' = s.ob ∧ g.map (fun v => (v, s'.ob)) = some (v, s'.ob) := by
  intro g hg
  cases g with
  | none => cases hg
  | some x => simp only [Option.map_some, Option.some.injEq, Prod.mk.injEq] at hg; obtain ⟨rfl, rfl⟩ := hg; exact ⟨rfl, rfl⟩
 have hval : ∀ x, St.val ⟨s'.sl, s.ob⟩ x = s'.val x := fun x => by cases x <;> rfl
 have hopt : ∀ x, optI ⟨s'.sl, s.ob⟩ x = optI s' x := fun x => by cases x <;> simp only [optI, hval]
 have hfa : ∀ (ps : List (Nat × Nat × AX)) z, fillA ⟨s'.sl, s.ob⟩ z ps = fillA s' z ps := by
  intro ps
  induction ps with
  | nil => intro z; rfl
  | cons p r ih => obtain ⟨a, b, x⟩ := p; intro z; simp only [fillA, hval, ih]
 have hmap : ∀ l : List AX, l.map (St.val ⟨s'.sl, s.ob⟩) = l.map s'.val := fun l => List.map_congr_left fun x _ => hval x
 cases ao <;> simp only [AO.pure, Bool.false_eq_true] at hp <;> simp only [ev, hval, hopt, hfa, hmap] at h2 ⊢
 case mv x => exact key (g := some (s'.val x)) h2
 case pick c a b =>
  split at h2
  ·rename_i t; exact key (g := some _) h2
  ·cases h2
 case build z ps =>
  simp only [Option.map_eq_some_iff] at h2
  obtain ⟨t, ht, he⟩ := h2
  simp only [Prod.mk.injEq] at he
  obtain ⟨rfl, rfl⟩ := he
  exact ⟨rfl, by rw [ht]; rfl⟩
 case nilck x =>
  split at h2
  ·exact key (g := some _) h2
  ·exact key (g := some _) h2
  ·exact key (g := some _) h2
  ·cases h2
 case bin op x y => exact key h2
 case eqs neg ks x y =>
  split at h2
  ·simp only [Option.map_eq_some_iff] at h2
   obtain ⟨t, ht, he⟩ := h2
   simp only [Prod.mk.injEq] at he
   obtain ⟨rfl, rfl⟩ := he
   exact ⟨rfl, by rw [ht]; rfl⟩
  ·cases h2
 case eqb neg x y =>
  split at h2
  ·exact key (g := some _) h2
  ·cases h2
 case un op x => exact key h2
 case conv k x =>
  split at h2
  ·exact key (g := some _) h2
  ·cases h2
 case faddr off x =>
  split at h2
  ·exact key (g := some _) h2
  ·exact key (g := some _) h2
  ·split at h2
   ·rename_i hc; rw [if_pos hc]; exact key (g := some _) h2
   ·cases h2
  ·cases h2
 case fld n off x =>
  split at h2
  ·exact key h2
  ·cases h2
 case iarr e l x i =>
  split at h2
  ·split at h2
   ·rename_i hc; rw [if_pos hc]; exact key (g := some _) h2
   ·cases h2
  ·split at h2
   ·rename_i hc; rw [if_pos hc]; exact key (g := some _) h2
   ·cases h2
  ·cases h2
 case idxs x i =>
  split at h2
  ·split at h2
   ·rename_i hc
    rw [if_pos hc]
    simp only [Option.map_eq_some_iff] at h2
    obtain ⟨t, ht, he⟩ := h2
    simp only [Prod.mk.injEq] at he
    obtain ⟨rfl, rfl⟩ := he
    exact ⟨rfl, by rw [ht]; rfl⟩
   ·cases h2
  ·cases h2
 case idxa n e l x i =>
  split at h2
  ·split at h2
   ·rename_i hc; rw [if_pos hc]; exact key h2
   ·cases h2
  ·cases h2
 case sstr x a b =>
  split at h2
  ·simp only [Option.map_eq_some_iff] at h2
   obtain ⟨t, ht, he⟩ := h2
   simp only [Prod.mk.injEq] at he
   obtain ⟨rfl, rfl⟩ := he
   exact ⟨rfl, by rw [ht]; rfl⟩
  ·cases h2
 case sarr e l x a b =>
  split at h2
  ·split at h2
   ·split at h2
    ·rename_i hc
     rw [if_pos hc]
     simp only [Option.map_eq_some_iff] at h2
     obtain ⟨t, ht, he⟩ := h2
     simp only [Prod.mk.injEq] at he
     obtain ⟨rfl, rfl⟩ := he
     exact ⟨rfl, by rw [ht]; rfl⟩
    ·cases h2
   ·cases h2
  ·cases h2
 case ext i x =>
  split at h2
  ·exact key h2
  ·cases h2
 case mkfn f a b => exact key (g := some _) h2
 case mki t x => exact key (g := some _) h2
 case tas t x =>
  split at h2
  ·exact key (g := some _) h2
  ·exact key (g := some _) h2
  ·cases h2
 case lenc n => exact key (g := some _) h2
 case lens x =>
  split at h2
  ·exact key (g := some _) h2
  ·cases h2
 case mm m xs =>
  split at h2
  ·simp only [Option.map_eq_some_iff] at h2
   obtain ⟨t, ht, he⟩ := h2
   simp only [Prod.mk.injEq] at he
   obtain ⟨rfl, rfl⟩ := he
   exact ⟨rfl, by rw [ht]; rfl⟩
  ·cases h2
 case nilsl neg x =>
  split at h2
  ·exact key (g := some _) h2
  ·exact key (g := some _) h2
  ·cases h2
 case isn k neg x =>
  simp only [Option.map_eq_some_iff] at h2
  obtain ⟨t, ht, he⟩ := h2
  simp only [Prod.mk.injEq] at he
  obtain ⟨rfl, rfl⟩ := he
  exact ⟨rfl, by rw [ht]; rfl⟩
 case arr op xs =>
  simp only [Option.map_eq_some_iff] at h2
  obtain ⟨t, ht, he⟩ := h2
  simp only [Prod.mk.injEq] at he
  obtain ⟨rfl, rfl⟩ := he
  exact ⟨rfl, by rw [ht]; rfl⟩
theorem ev_frame {forb : List Nat} {nw : Option Nat} {ao : AO} (hw : ao.writes = false) (hn : ao.news = true → nw ≠ none) {v : PV} {ob' : List AObj} (h : ev forb nw s ao = some (v, ob')) (hl : agreeOn ao.looks s s')
  (ho : obAgree forb s.ob s'.ob) (hnw : ∀ p, nw = some p → s.ob[p]? = some .none → s'.ob[p]? = some .none) :
  ∃ e, (∀ p a, e = some (p, a) → nw = some p) ∧ ob' = appE e s.ob ∧ ev forb nw s' ao = some (v, appE e s'.ob) := by
 by_cases hp : ao.pure = true
 ·obtain ⟨h1, h2⟩ := ev_pure hp h hl
  exact ⟨none, fun _ _ h => (nomatch h), h1, h2⟩
 have key : ∀ {g : Option PV}, g.map (fun v => (v, s.ob)) = some (v, ob') → ∃ e : Option (Nat × AObj), (∀ p a, e = some (p, a) → nw = some p) ∧ ob' = appE e s.ob ∧ g.map (fun v => (v, s'.ob)) = some (v, appE e s'.ob) := by
  intro g hg
  cases g with
  | none => cases hg
  | some x => simp only [Option.map_some, Option.some.injEq, Prod.mk.injEq] at hg; obtain ⟨rfl, rfl⟩ := hg; exact ⟨none, fun _ _ h => (nomatch h), rfl, rfl⟩
 have mk : ∀ {a : AObj} {k : Nat → PV}, nw ≠ none → (mkO s nw a).map (fun (o, ob) => (k o, ob)) = some (v, ob') → ∃ e : Option (Nat × AObj), (∀ p a, e = some (p, a) → nw = some p) ∧ ob' = appE e s.ob ∧ (mkO s' nw a).map (fun (o, ob) => (k o, ob)) = some (v, appE e s'.ob) := by
  intro a k hne hg
  cases hnw' : nw with
  | none => exact absurd hnw' hne
  | some p =>
   rw [hnw'] at hg
   simp only [Option.map_eq_some_iff] at hg
   obtain ⟨⟨o, ob1⟩, h1, h2⟩ := hg
   obtain ⟨rfl, h3, rfl⟩ := mkO_some h1
   simp only [Prod.mk.injEq] at h2
   obtain ⟨rfl, rfl⟩ := h2
   refine ⟨some (o, a), fun p a h => by cases h; rfl, rfl, ?_⟩
   rw [mkO_at (hnw o hnw' h3)]; rfl
 cases ao <;> simp only [AO.pure, not_true] at hp <;> simp only [AO.writes, Bool.true_eq_false] at hw <;> simp only [AO.looks] at hl <;> simp only [AO.news] at hn
 case alloc z => simp only [ev] at h ⊢; exact mk (k := fun o => .ref o 0) (hn trivial) h
 case box x =>
  simp only [ev] at h ⊢; rw [val_agree hl]
  split at h
  ·rename_i hc; rw [if_pos hc]; exact mk (k := fun o => .ref o 0) (hn trivial) h
  ·cases h
 case blds own z n ps =>
  simp only [ev] at h ⊢; rw [fillR_agree ps _ hl]
  simp only [Option.bind_eq_some_iff] at h ⊢
  obtain ⟨rows, hr, h⟩ := h
  split at h
  ·rename_i hc
   split at h
   ·rename_i hown
    obtain ⟨e, h1, h2, h3⟩ := mk (k := fun o => .osl o 0 rows.length) (hn hown) h
    exact ⟨e, h1, h2, rows, hr, by rw [if_pos hc, if_pos hown]; exact h3⟩
   ·rename_i hown
    obtain ⟨e, h1, h2, h3⟩ := key (g := some _) h
    exact ⟨e, h1, h2, rows, hr, by rw [if_pos hc, if_neg hown]; exact h3⟩
  ·cases h
 case load n a =>
  cases n with
  | none =>
   simp only [ev] at h ⊢; rw [val_agree hl, ldC_agree ho]
   split at h
   ·exact key (g := some _) h
   ·cases h
  | some n =>
   simp only [ev] at h ⊢; rw [val_agree hl, ldC_agree ho]
   simp only [Option.map_eq_some_iff] at h
   obtain ⟨cs, h1, h2⟩ := h
   simp only [Prod.mk.injEq] at h2
   obtain ⟨rfl, rfl⟩ := h2
   exact ⟨none, fun _ _ h => (nomatch h), rfl, by rw [h1]; rfl⟩
 case b2s x =>
  simp only [ev] at h ⊢; rw [val_agree hl, rowsOf_agree ho]
  simp only [Option.map_eq_some_iff] at h
  obtain ⟨cs, h1, h2⟩ := h
  simp only [Prod.mk.injEq] at h2
  obtain ⟨rfl, rfl⟩ := h2
  exact ⟨none, fun _ _ h => (nomatch h), rfl, by rw [h1]; rfl⟩
 case s2b own x =>
  simp only [ev] at h ⊢; rw [val_agree hl]
  split at h
  ·split at h
   ·rename_i l _ hown
    rw [if_pos hown]
    exact mk (k := fun o => .osl o 0 l.length) (hn hown) h
   ·rename_i hown
    rw [if_neg hown]
    exact key (g := some _) h
  ·cases h
 case isl e x i =>
  simp only [ev] at h ⊢; rw [val_agree (agree_left hl), val_agree (agree_right hl)]
  split at h
  ·split at h
   ·rename_i hc
    rw [if_pos hc]
    split at h
    ·split at h
     ·rename_i hc2; rw [if_pos hc2]; exact key (g := some _) h
     ·cases h
    ·cases h
   ·cases h
  ·rename_i o j m _ n _ _
   by_cases hc : forb.contains o = true
   ·rw [if_pos hc] at h; cases h
   ·rw [if_neg hc] at h ⊢
    rw [ho o (by simpa using hc)]
    split at h
    ·split at h
     ·rename_i hc2; rw [if_pos hc2]; exact key (g := some _) h
     ·cases h
    ·cases h
  ·split at h
   ·rename_i hc; rw [if_pos hc]; exact key (g := some _) h
   ·cases h
  ·cases h
 case ssl e x a b =>
  simp only [ev] at h ⊢; rw [val_agree (agree_left hl), optI_agree (agree_left (agree_right hl)), optI_agree (agree_right (agree_right hl))]
  split at h
  ·split at h
   ·split at h
    ·rename_i hc
     simp only [Option.map_eq_some_iff] at h
     obtain ⟨cs, h1, h2⟩ := h
     simp only [Prod.mk.injEq] at h2
     obtain ⟨rfl, rfl⟩ := h2
     exact ⟨none, fun _ _ h => (nomatch h), rfl, by rw [if_pos hc, h1]; rfl⟩
    ·cases h
   ·simp only [Option.map_eq_some_iff] at h
    obtain ⟨cs, h1, h2⟩ := h
    simp only [Prod.mk.injEq] at h2
    obtain ⟨rfl, rfl⟩ := h2
    exact ⟨none, fun _ _ h => (nomatch h), rfl, by rw [h1]; rfl⟩
   ·rename_i o j m _
    by_cases hc : forb.contains o = true
    ·rw [if_pos hc] at h; cases h
    ·rw [if_neg hc] at h ⊢
     rw [ho o (by simpa using hc)]
     split at h
     ·split at h
      ·rename_i hc3
       rw [if_pos hc3]
       simp only [Option.bind_eq_some_iff] at h
       obtain ⟨⟨i, k⟩, h1, h2⟩ := h
       simp only [] at h2
       split at h2
       ·rename_i hk
        simp only [Option.some.injEq, Prod.mk.injEq] at h2
        obtain ⟨rfl, rfl⟩ := h2
        refine ⟨none, fun _ _ h => (nomatch h), rfl, ?_⟩
        rw [h1]; simp only [Option.bind_some]; rw [if_pos hk]; rfl
       ·cases h2
      ·cases h
     ·cases h
   ·cases h
  ·cases h
 case len x =>
  simp only [ev] at h ⊢; rw [val_agree hl, rowsOf_agree ho]
  simp only [Option.map_eq_some_iff] at h
  obtain ⟨cs, h1, h2⟩ := h
  simp only [Prod.mk.injEq] at h2
  obtain ⟨rfl, rfl⟩ := h2
  exact ⟨none, fun _ _ h => (nomatch h), rfl, by rw [h1]; rfl⟩
 case mks own z b x y =>
  simp only [ev] at h ⊢; rw [val_agree (agree_left hl), val_agree (agree_right hl)]
  split at h
  ·split at h
   ·rename_i hc
    rw [if_pos hc]
    split at h
    ·rename_i hown
     rw [if_pos hown]
     split at h
     ·rename_i hz
      rw [if_pos hz]
      exact mk (k := fun o => .bsl o 0 _) (hn hown) h
     ·rename_i hz
      rw [if_neg hz]
      exact mk (k := fun o => .osl o 0 _) (hn hown) h
    ·rename_i hown
     rw [if_neg hown]
     exact key (g := some _) h
   ·cases h
  ·cases h
 case nilown e => simp only [ev] at h ⊢; exact mk (k := fun o => .osl o 0 0) (hn trivial) h
 case call => simp [ev] at h
 case callv => simp [ev] at h
 case rcall => simp [ev] at h
 case rcalli => simp [ev] at h
 case fail => simp [ev] at h
 case alit z n ps =>
  simp only [ev] at h ⊢; rw [fillR_agree ps _ hl]
  simp only [Option.bind_eq_some_iff] at h ⊢
  obtain ⟨rows, hr, h⟩ := h
  split at h
  ·rename_i hc
   obtain ⟨e, h1, h2, h3⟩ := mk (k := fun o => .asl o 0 rows.length rows.length) (hn trivial) h
   exact ⟨e, h1, h2, rows, hr, by rw [if_pos hc]; exact h3⟩
  ·cases h
 case usd x =>
  simp only [ev] at h ⊢; rw [val_agree hl]
  split at h
  ·rename_i o n _
   by_cases hc : forb.contains o = true
   ·rw [if_pos hc] at h; cases h
   ·rw [if_neg hc] at h ⊢
    rw [ho o (by simpa using hc)]
    split at h
    ·split at h
     ·rename_i hc2; rw [if_pos hc2]; exact key (g := some _) h
     ·cases h
    ·cases h
  ·cases h
 case ust e x y =>
  simp only [ev] at h ⊢; rw [val_agree (agree_left hl), val_agree (agree_right hl)]
  split at h
  ·rename_i o len k n _ _
   by_cases hc : forb.contains o = true
   ·rw [if_pos hc] at h; cases h
   ·rw [if_neg hc] at h ⊢
    rw [ho o (by simpa using hc)]
    split at h
    ·split at h
     ·rename_i hc2; rw [if_pos hc2]; exact key (g := some _) h
     ·cases h
    ·cases h
  ·split at h
   ·rename_i hc2; rw [if_pos hc2]; exact key (g := some _) h
   ·cases h
  ·cases h
theorem wObj_agree {ao : AO} (h : agreeOn ao.looks s s') : wObj s' ao = wObj s ao := by
 cases ao <;> simp only [AO.looks] at h <;> simp only [wObj]
 case store n a x => rw [val_agree (agree_left h)]
 case app => rw [val_agree (agree_left h)]
 case apps => rw [val_agree (agree_left h)]
theorem set_get {ob : List AObj} {o : Nat} {a b : AObj} (h : ob[o]? = some a) : (ob.set o b)[o]? = some b := by
 rw [List.getElem?_set_self (List.getElem?_eq_some_iff.1 h).1]
theorem ev_frameW {forb : List Nat} {nw : Option Nat} {ao : AO} {oo : Nat} (hwo : wObj s ao = some oo) {v : PV} {ob' : List AObj} (h : ev forb nw s ao = some (v, ob')) (hl : agreeOn ao.looks s s')
  (ho : obAgree forb s.ob s'.ob) : oo ∉ forb ∧ s.ob[oo]? ≠ some .none ∧ ∃ a', a' ≠ .none ∧ ob' = s.ob.set oo a' ∧ ev forb nw s' ao = some (v, s'.ob.set oo a') := by
 cases ao <;> simp only [AO.looks] at hl <;> simp only [wObj] at hwo <;> try (cases hwo; done)
 case store n a x =>
  simp only [ev] at h ⊢
  rw [val_agree (agree_left hl), val_agree (agree_right hl)]
  split at h
  ·rename_i hc
   rw [if_pos hc]
   simp only [Option.map_eq_some_iff] at h ⊢
   obtain ⟨ob1, h1, h2⟩ := h
   simp only [Prod.mk.injEq] at h2
   obtain ⟨rfl, rfl⟩ := h2
   revert hwo h1
   generalize s.val a = p
   intro hwo h1
   cases p with
   | osl o i n => simp [stC] at h1
   | ref o off =>
    simp only [objOf, Option.some.injEq] at hwo; subst hwo
    simp only [stC] at h1 ⊢
    by_cases hf : forb.contains o = true
    ·rw [if_pos hf] at h1; cases h1
    ·have hf' : o ∉ forb := by simpa using hf
     rw [if_neg hf] at h1
     split at h1
     ·rename_i cs hob
      split at h1
      ·rename_i hlen
       cases h1
       exact ⟨hf', by rw [hob]; simp, _, by simp, rfl, _, by rw [if_neg hf, ho o hf', hob]; simp only [hlen, if_true], rfl⟩
      ·cases h1
     ·rename_i t cs hob
      split at h1
      ·rename_i hlen
       cases h1
       exact ⟨hf', by rw [hob]; simp, _, by simp, rfl, _, by rw [if_neg hf, ho o hf', hob]; simp only [hlen, if_true], rfl⟩
      ·cases h1
     ·cases h1
   | lref o i off len =>
    simp only [objOf, Option.some.injEq] at hwo; subst hwo
    simp only [stC] at h1 ⊢
    by_cases hf : (forb.contains o || ownL (s.val x).cellsOf) = true
    ·rw [if_pos hf] at h1; cases h1
    ·have hf2 := hf
     simp only [Bool.or_eq_true, not_or] at hf2
     have hf' : o ∉ forb := by simpa using hf2.1
     rw [if_neg hf] at h1
     split at h1
     ·rename_i esz rows hob
      split at h1
      ·rename_i hlen
       split at h1
       ·rename_i r hr
        split at h1
        ·rename_i hoff
         cases h1
         exact ⟨hf', by rw [hob]; simp, _, by simp, rfl, _, by rw [if_neg hf, ho o hf', hob]; simp only [hlen, if_true, hr, hoff], rfl⟩
        ·cases h1
       ·cases h1
      ·cases h1
     ·cases h1
   | _ => simp [objOf] at hwo
  ·cases h
 case app e b z x y =>
  simp only [ev] at h ⊢
  rw [val_agree (agree_left hl), val_agree (agree_right hl), rowsOf_agree ho]
  simp only [Option.bind_eq_some_iff] at h ⊢
  obtain ⟨new, hnew, h⟩ := h
  split at h
  ·rename_i hc
   revert hwo h
   generalize s.val x = p
   intro hwo h
   cases p with
   | ref o off => simp only [] at h; cases h
   | lref o i off len => simp only [] at h; cases h
   | osl o i n =>
    simp only [objOf, Option.some.injEq] at hwo; subst hwo
    simp only [] at h ⊢
    by_cases hf : forb.contains o = true
    ·rw [if_pos hf] at h; cases h
    ·have hf' : o ∉ forb := by simpa using hf
     rw [if_neg hf] at h
     split at h
     ·rename_i z' rows hob
      split at h
      ·rename_i hc2
       simp only [Option.some.injEq, Prod.mk.injEq] at h
       obtain ⟨rfl, rfl⟩ := h
       exact ⟨hf', by rw [hob]; simp, _, by simp, rfl, new, hnew, by rw [if_pos hc, if_neg hf, ho o hf', hob]; simp only [hc2, and_self, if_true]⟩
      ·cases h
     ·cases h
   | _ => simp [objOf] at hwo
  ·cases h
 case apps e x y =>
  simp only [ev] at h ⊢
  rw [val_agree (agree_left hl), val_agree (agree_right hl)]
  split at h
  ·rename_i b hy
   split at h
   ·rename_i hc
    rw [if_pos hc]
    revert hwo h
    generalize s.val x = p
    intro hwo h
    cases p with
    | ref o off => simp only [] at h; cases h
    | lref o i off len => simp only [] at h; cases h
    | osl o i n =>
     simp only [objOf, Option.some.injEq] at hwo; subst hwo
     split at h
     ·rename_i o2 n2 heq
      simp only [PV.osl.injEq] at heq
      obtain ⟨rfl, rfl, rfl⟩ := heq
      by_cases hf : forb.contains o = true
      ·rw [if_pos hf] at h; cases h
      ·have hf' : o ∉ forb := by simpa using hf
       rw [if_neg hf] at h
       split at h
       ·rename_i u bs hob
        split at h
        ·rename_i hc2
         simp only [Option.some.injEq, Prod.mk.injEq] at h
         obtain ⟨rfl, rfl⟩ := h
         refine ⟨hf', by rw [hob]; simp, _, by simp, rfl, ?_⟩
         rw [if_neg hf, ho o hf', hob]
         simp only [hc2, and_self, if_true]
        ·cases h
       ·cases h
     ·cases h
    | _ => simp [objOf] at hwo
   ·cases h
  ·cases h
end
end Go.Proofs.YtdgpiobmncohjaaGreatDoor.Aw
