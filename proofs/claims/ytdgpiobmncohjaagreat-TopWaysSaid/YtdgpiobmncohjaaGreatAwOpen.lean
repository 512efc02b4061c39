/-
  What comes in reads as abstract values of the right shape, whatever it is.
-/
import Derived.Test.YtdgpiobmncohjaaGreatAwClose
import Derived.Deep.Slices
namespace Go.Proofs.YtdgpiobmncohjaaGreat.Aw
open Go.ChangeShapes Go.WideShapes Go.ChangeAt Go.RowKit

/-- The shapes of what comes in. -/
inductive Sh where
  | int (k : IntKind)
  | bool
  | str
  | sl (e : Sh)
  | st (fs : List Sh)
  | arr (n : Nat) (e : Sh)

mutual
def Sh.n : Sh → Nat
  | .int _ | .bool | .str | .sl _ => 1
  | .st fs => shN fs
  | .arr n e => n * e.n
def shN : List Sh → Nat
  | [] => 0
  | s :: r => s.n + shN r
end

mutual
def Sh.of (P : Program) : Sh → TypeId → Bool
  | .int k, t => match P.underlying t with
    | some (.int k') => decide (k' = k)
    | _ => false
  | .bool, t => match P.underlying t with
    | some .bool => true
    | _ => false
  | .str, t => match P.underlying t with
    | some .string => true
    | _ => false
  | .sl e, t => match P.underlying t with
    | some (.slice te) => e.of P te && (decide (P.cellsOf te = e.n) && decide (0 < e.n))
    | _ => false
  | .st fs, t => match P.underlying t with
    | some (.struct fds) => ofL' P fs fds.toList 0 && decide (P.cellsOf t = shN fs)
    | _ => false
  | .arr n e, t => match P.underlying t with
    | some (.array m te) => decide (m = n) && (e.of P te && (decide (P.cellsOf te = e.n) && decide (P.cellsOf t = n * e.n)))
    | _ => false
def ofL' (P : Program) : List Sh → List Field → Nat → Bool
  | [], [], _ => true
  | s :: r, f :: fr, off => s.of P f.type && (decide (f.offset = off) && (decide (P.cellsOf f.type = s.n) && ofL' P r fr (off + s.n)))
  | _, _, _ => false
end

mutual
/-- Cells of a shape. -/
def Sh.fit : Sh → List PV → Prop
  | .int k, cs => ∃ n, cs = [.int k n] ∧ (Lit.int k n).wf = true
  | .bool, cs => ∃ b, cs = [.bool b]
  | .str, cs => ∃ s : List UInt8, cs = [.str s] ∧ s.length ≤ maxLen
  | .sl e, cs => ∃ rows : List (List PV), cs = [.slc rows] ∧ rows.length ≤ maxLen ∧ ∀ r ∈ rows, e.fit r
  | .st fs, cs => fitL fs cs
  | .arr n e, cs => ∃ parts : List (List PV), cs = parts.flatten ∧ parts.length = n ∧ ∀ p ∈ parts, e.fit p
def fitL : List Sh → List PV → Prop
  | [], cs => cs = []
  | s :: r, cs => ∃ a b, cs = a ++ b ∧ s.fit a ∧ fitL r b
end

theorem flat_len {n : Nat} : ∀ (rows : List (List PV)), (∀ r ∈ rows, r.length = n) → rows.flatten.length = rows.length * n
  | [], _ => by simp
  | r :: rs, h => by
    rw [List.flatten_cons, List.length_append, flat_len rs (fun x hx => h x (List.mem_cons_of_mem _ hx)), h r (by simp), List.length_cons, Nat.add_mul]; omega

mutual
theorem fit_len : ∀ (s : Sh) (cs : List PV), s.fit cs → cs.length = s.n
  | .int k, cs, h => by obtain ⟨n, rfl, _⟩ := h; rfl
  | .bool, cs, h => by obtain ⟨b, rfl⟩ := h; rfl
  | .str, cs, h => by obtain ⟨b, rfl, _⟩ := h; rfl
  | .sl e, cs, h => by
    obtain ⟨rows, rfl, _⟩ := h
    rfl
  | .st fs, cs, h => fitL_len fs cs h
  | .arr n e, cs, h => by
    obtain ⟨parts, rfl, h1, h2⟩ := h
    rw [flat_len parts fun p hp => fit_len e p (h2 p hp), h1]; rfl
theorem fitL_len : ∀ (fs : List Sh) (cs : List PV), fitL fs cs → cs.length = shN fs
  | [], cs, h => by rw [show cs = [] from h]; rfl
  | s :: r, cs, h => by
    obtain ⟨a, b, rfl, h1, h2⟩ := h
    rw [List.length_append, fit_len s a h1, fitL_len r b h2]; rfl
end

theorem list_of {α : Type} (Q : Nat → α → Prop) : ∀ n, (∀ i, i < n → ∃ a, Q i a) → ∃ l : List α, l.length = n ∧ ∀ i a, l[i]? = some a → Q i a
  | 0, _ => ⟨[], rfl, fun i a h => by simp at h⟩
  | n + 1, h => by
    obtain ⟨l, h1, h2⟩ := list_of Q n fun i hi => h i (by omega)
    obtain ⟨a, ha⟩ := h n (by omega)
    refine ⟨l ++ [a], by simp [h1], fun i b hb => ?_⟩
    rw [List.getElem?_append] at hb
    split at hb
    · exact h2 i b hb
    · rename_i hlt
      have hi := (List.getElem?_eq_some_iff.1 hb).1
      simp at hi
      have : i = n := by omega
      subst this
      rw [h1, Nat.sub_self] at hb
      simp at hb; subst hb; exact ha

theorem flatten_get {α : Type} {n : Nat} (hn : 0 < n) : ∀ (rows : List (List α)), (∀ r ∈ rows, r.length = n) → ∀ j, rows.flatten[j]? = (rows[j / n]?).bind fun r => r[j % n]?
  | [], _, j => by simp
  | r :: rs, h, j => by
    rw [List.flatten_cons, List.getElem?_append, h r (by simp)]
    by_cases hj : j < n
    · rw [if_pos hj, Nat.div_eq_of_lt hj, Nat.mod_eq_of_lt hj]; simp
    · rw [if_neg hj, flatten_get hn rs (fun x hx => h x (List.mem_cons_of_mem _ hx))]
      obtain ⟨k, rfl⟩ : ∃ k, j = k + n := ⟨j - n, by omega⟩
      rw [Nat.add_sub_cancel, Nat.add_div_right _ hn, Nat.add_mod_right]; simp

theorem mapM_range {α : Type} {f : Nat → Option α} {n : Nat} {l : List α} (h : (List.range n).mapM f = some l) : l.length = n ∧ ∀ i, i < n → f i = l[i]? := by
  have h1 := mapM_length _ _ _ h
  refine ⟨by simpa using h1, fun i hi => ?_⟩
  have hil : i < l.length := by rw [h1]; simpa using hi
  obtain ⟨x, h2, h3⟩ := mapM_get _ _ _ h i l[i] (List.getElem?_eq_getElem hil)
  rw [List.getElem?_range hi] at h2
  simp only [Option.some.injEq] at h2; subst h2
  rw [h3, List.getElem?_eq_getElem hil]

section
variable {H : Type} {enc : TypeId × Value → H} {P : Program} {w : World} {base : Nat} {spare : Nat → Bool} {held : Bool}

theorem trod_fit : ∀ (fuel : Nat) (s : Sh) (t : TypeId) (cs : List Value) (x : DataW H × List MemPlace), s.of P t = true → DataW.trod enc P w base spare held fuel t cs = some x →
    ∃ ps, RL w (fun b => b < w.heap.size) (fun _ => none) ps cs ∧ s.fit ps ∧ ∀ v ∈ cs, v.oneCell' = true
  | 0, s, t, cs, x, _, h => by simp [DataW.trod] at h
  | fuel + 1, .int k, t, cs, x, ho, h => by
    simp only [Sh.of] at ho
    split at ho
    · rename_i k' hu
      simp only [decide_eq_true_eq] at ho; subst ho
      unfold DataW.trod at h
      rcases cs with _ | ⟨v, _ | ⟨v2, cs⟩⟩ <;> simp only [hu] at h <;> try (cases h; done)
      cases v <;> simp only [] at h <;> try (cases h; done)
      rename_i k2 n
      split at h
      · rename_i hc
        obtain ⟨rfl, hw⟩ := hc
        exact ⟨[.int _ n], .one (.int _ _), ⟨n, rfl, hw⟩, by simp [Value.oneCell']⟩
      · cases h
    · cases ho
  | fuel + 1, .bool, t, cs, x, ho, h => by
    simp only [Sh.of] at ho
    split at ho
    · rename_i hu
      unfold DataW.trod at h
      rcases cs with _ | ⟨v, _ | ⟨v2, cs⟩⟩ <;> simp only [hu] at h <;> try (cases h; done)
      cases v <;> simp only [] at h <;> try (cases h; done)
      rename_i b
      exact ⟨[.bool b], .one (.bool _), ⟨b, rfl⟩, by simp [Value.oneCell']⟩
    · cases ho
  | fuel + 1, .str, t, cs, x, ho, h => by
    simp only [Sh.of] at ho
    split at ho
    · rename_i hu
      unfold DataW.trod at h
      rcases cs with _ | ⟨v, _ | ⟨v2, cs⟩⟩ <;> simp only [hu] at h <;> try (cases h; done)
      cases v <;> simp only [] at h <;> try (cases h; done)
      rename_i b
      split at h
      · rename_i hc
        exact ⟨[.str b.data.toList], .one (R1.string b), ⟨_, rfl, by simpa using hc⟩, by simp [Value.oneCell']⟩
      · cases h
    · cases ho
  | fuel + 1, .sl e, t, cs, x, ho, h => by
    simp only [Sh.of] at ho
    split at ho
    · rename_i te hu
      simp only [Bool.and_eq_true, decide_eq_true_eq] at ho
      obtain ⟨ho1, hce, hpos⟩ := ho
      unfold DataW.trod at h
      rcases cs with _ | ⟨v, _ | ⟨v2, cs⟩⟩ <;> simp only [hu] at h <;> try (cases h; done)
      cases v <;> try (cases h; done)
      rename_i ad len cap
      cases ad with
      | none =>
        have h0 : len = 0 ∧ cap = 0 := by
          cases len <;> cases cap <;> first | exact ⟨rfl, rfl⟩ | cases h
        obtain ⟨rfl, rfl⟩ := h0
        exact ⟨[.slc []], .one (.slc0 _ _), ⟨[], rfl, Nat.zero_le _, fun r hr => by cases hr⟩, by simp [Value.oneCell']⟩
      | some a =>
        simp only [] at h
        split at h
        · rename_i hcond
          obtain ⟨hbase, hlc, hcm⟩ := hcond
          simp only [Option.bind_eq_some_iff] at h
          obtain ⟨elems, hel, h⟩ := h
          obtain ⟨hl1, hl2⟩ := mapM_range hel
          by_cases hlen : len = 0
          · subst hlen
            exact ⟨[.slc []], .one (.slc0 _ _), ⟨[], rfl, Nat.zero_le _, fun r hr => by cases hr⟩, by simp [Value.oneCell']⟩
          · have hQ : ∀ i, i < len → ∃ q : List PV × List Value, w.cells? base (a.add (i * P.cellsOf te)) (P.cellsOf te) = some q.2 ∧ RL w (fun b => b < w.heap.size) (fun _ => none) q.1 q.2 ∧ e.fit q.1 ∧ ∀ v ∈ q.2, v.oneCell' = true := by
              intro i hi
              have h1 := hl2 i hi
              rw [List.getElem?_eq_getElem (by omega)] at h1
              obtain ⟨cs', g1, g2⟩ := Option.bind_eq_some_iff.1 h1
              obtain ⟨ps, g3, g4, g5⟩ := trod_fit fuel e te cs' _ ho1 g2
              exact ⟨(ps, cs'), g1, g3, g4, g5⟩
            obtain ⟨l, hll, hlq⟩ := list_of _ len hQ
            have hq : ∀ i (hi : i < len), (l[i]'(by omega)).1.length = e.n ∧ ∀ k v, (l[i]'(by omega)).2[k]? = some v → w.cell? ((a.add (i * e.n)).add k) = some v := by
              intro i hi
              obtain ⟨g1, g2, g3, g4⟩ := hlq i _ (List.getElem?_eq_getElem (by omega))
              refine ⟨fit_len e _ g3, fun k v hv => ?_⟩
              unfold World.cells? at g1
              split at g1
              · obtain ⟨k1, k2⟩ := mapM_range g1
                have hk : k < P.cellsOf te := by
                  have := (List.getElem?_eq_some_iff.1 hv).1; omega
                rw [← hce, k2 k hk, hv]
              · cases g1
            have hrlen : ∀ r ∈ l.map (·.1), r.length = e.n := by
              intro r hr
              obtain ⟨q, hqm, rfl⟩ := List.mem_map.1 hr
              obtain ⟨i, hi, rfl⟩ := List.mem_iff_getElem.1 hqm
              exact (hq i (by omega)).1
            have hvlen : ∀ r ∈ l.map (·.2), r.length = e.n := by
              intro r hr
              obtain ⟨q, hqm, rfl⟩ := List.mem_map.1 hr
              obtain ⟨i, hi, rfl⟩ := List.mem_iff_getElem.1 hqm
              obtain ⟨g1, g2, g3, g4⟩ := hlq i _ (List.getElem?_eq_getElem hi)
              rw [← g2.1]; exact fit_len e _ g3
            -- the block
            have hcell : ∀ j v, (l.map (·.2)).flatten[j]? = some v → w.cell? (a.add j) = some v := by
              intro j v hv
              rw [flatten_get hpos _ hvlen, List.getElem?_map] at hv
              have hjl : j / e.n < l.length := by
                rcases Nat.lt_or_ge (j / e.n) l.length with h' | h'
                · exact h'
                · rw [List.getElem?_eq_none h'] at hv; cases hv
              rw [List.getElem?_eq_getElem hjl] at hv
              simp only [Option.map_some, Option.bind_some] at hv
              have := (hq (j / e.n) (by omega)).2 (j % e.n) v hv
              rw [Deep.add_add, Nat.mul_comm, Nat.div_add_mod] at this
              exact this
            have hfl : (l.map (·.2)).flatten.length = len * e.n := by
              have hvl : ∀ (L : List (List Value)), (∀ r ∈ L, r.length = e.n) → L.flatten.length = L.length * e.n := by
                intro L
                induction L with
                | nil => intro _; simp
                | cons r rs ih => intro hh; rw [List.flatten_cons, List.length_append, ih (fun x hx => hh x (List.mem_cons_of_mem _ hx)), hh r (by simp), List.length_cons, Nat.add_mul]; omega
              rw [hvl _ hvlen]; simp [hll]
            have hfpos : 0 < (l.map (·.2)).flatten.length := by rw [hfl]; exact Nat.mul_pos (by omega) hpos
            have hc0 := hcell 0 _ (List.getElem?_eq_getElem hfpos)
            have hadd0 : a.add 0 = a := by simp [Addr.add]
            rw [hadd0] at hc0
            obtain ⟨b, off, spot⟩ := a
            unfold World.cell? at hc0
            simp only [] at hc0
            split at hc0
            · rename_i cc et fr hbk
              split at hc0
              · cases hc0
              · rename_i hspot
                have hs : spot = none := by
                  cases spot with
                  | none => rfl
                  | some y => simp at hspot
                subst hs
                have hblt : b < w.heap.size := lt_of_cells hbk
                have hrne : l.map (·.1) ≠ [] := by
                  intro h0
                  have := congrArg List.length h0
                  simp at this; simp [this] at hll; omega
                have hone : ∀ v ∈ (l.map (·.2)).flatten, v.oneCell' = true := by
                  intro v hv
                  obtain ⟨r, hr, hvr⟩ := List.mem_flatten.1 hv
                  obtain ⟨q, hqm, rfl⟩ := List.mem_map.1 hr
                  obtain ⟨i, hi, rfl⟩ := List.mem_iff_getElem.1 hqm
                  exact (hlq i _ (List.getElem?_eq_getElem hi)).2.2.2 v hvr
                refine ⟨[.slc (l.map (·.1))], .one ?_, ⟨_, rfl, by simp; omega, ?_⟩, by simp [Value.oneCell']⟩
                · have hlr : (l.map (·.1)).length = len := by simpa using hll
                  rw [← hlr]
                  refine .slcN (cv := (l.map (·.2)).flatten) hrne (by omega) hblt ⟨⟨cc, et, fr, hbk, fun j hj => ?_⟩, hone⟩ hrlen ?_ ?_
                  · have := hcell j _ (List.getElem?_eq_getElem hj)
                    rw [Addr.add_lit, cell_of_block hbk] at this
                    rw [this, List.getElem?_eq_getElem hj]
                  · rw [flat_len _ hrlen, hfl]; simp [hll]
                  · intro j p v hp hv
                    rw [flatten_get hpos _ hrlen, List.getElem?_map] at hp
                    rw [flatten_get hpos _ hvlen, List.getElem?_map] at hv
                    cases hlj : l[j / e.n]? with
                    | none => rw [hlj] at hp; cases hp
                    | some q =>
                      rw [hlj] at hp hv
                      simp only [Option.map_some, Option.bind_some] at hp hv
                      exact (hlq _ _ hlj).2.1.2 _ _ _ hp hv
                · intro r hr
                  obtain ⟨q, hqm, rfl⟩ := List.mem_map.1 hr
                  obtain ⟨i, hi, rfl⟩ := List.mem_iff_getElem.1 hqm
                  exact (hlq i _ (List.getElem?_eq_getElem hi)).2.2.1
            · cases hc0
        · cases h
    · cases ho
  | fuel + 1, .st fs, t, cs, x, ho, h => by
    simp only [Sh.of] at ho
    split at ho
    · rename_i fds hu
      simp only [Bool.and_eq_true, decide_eq_true_eq] at ho
      obtain ⟨ho1, hct⟩ := ho
      unfold DataW.trod at h
      simp only [hu] at h
      split at h
      · rename_i hlen
        simp only [Option.map_eq_some_iff] at h
        obtain ⟨xs, hxs, _⟩ := h
        have key : ∀ (sl : List Sh) (fl : List Field) (off : Nat) (xs : List (DataW H × List MemPlace)), ofL' P sl fl off = true → (fl.mapM fun f => DataW.trod enc P w base spare held fuel f.type ((cs.drop f.offset).take (P.cellsOf f.type))) = some xs → off + shN sl ≤ cs.length →
            ∃ ps, RL w (fun b => b < w.heap.size) (fun _ => none) ps ((cs.drop off).take (shN sl)) ∧ fitL sl ps ∧ ∀ v ∈ (cs.drop off).take (shN sl), v.oneCell' = true := by
          intro sl
          induction sl with
          | nil =>
            intro fl off xs hofl hm hle
            exact ⟨[], by rw [show shN [] = 0 from rfl, List.take_zero]; exact RL.nil, rfl, by rw [show shN [] = 0 from rfl]; simp⟩
          | cons s r ih =>
            intro fl off xs hofl hm hle
            cases fl with
            | nil => simp [ofL'] at hofl
            | cons f fr =>
              simp only [ofL', Bool.and_eq_true, decide_eq_true_eq] at hofl
              obtain ⟨h1, h2, h3, h4⟩ := hofl
              simp only [List.mapM_cons, Option.bind_eq_bind, Option.pure_def, Option.bind_eq_some_iff, Option.some.injEq] at hm
              obtain ⟨y, hy, ys, hys, rfl⟩ := hm
              rw [h2, h3] at hy
              have hsn : shN (s :: r) = s.n + shN r := rfl
              rw [hsn] at hle
              obtain ⟨ps1, g1, g2, g3⟩ := trod_fit fuel s f.type _ y h1 hy
              obtain ⟨ps2, g4, g5, g6⟩ := ih fr (off + s.n) ys h4 hys (by omega)
              have hsplit : (cs.drop off).take (s.n + shN r) = (cs.drop off).take s.n ++ (cs.drop (off + s.n)).take (shN r) := by
                rw [List.take_add, List.drop_drop]
              rw [hsn, hsplit]
              refine ⟨ps1 ++ ps2, g1.append g4, ⟨ps1, ps2, rfl, g2, g5⟩, fun v hv => ?_⟩
              rcases List.mem_append.1 hv with hv | hv
              · exact g3 v hv
              · exact g6 v hv
        obtain ⟨ps, g1, g2, g3⟩ := key fs fds.toList 0 xs ho1 hxs (by omega)
        rw [List.drop_zero, List.take_of_length_le (by omega)] at g1 g3
        exact ⟨ps, g1, g2, g3⟩
      · cases h
    · cases ho
  | fuel + 1, .arr n e, t, cs, x, ho, h => by
    simp only [Sh.of] at ho
    split at ho
    · rename_i m te hu
      simp only [Bool.and_eq_true, decide_eq_true_eq] at ho
      obtain ⟨rfl, ho1, hce, hct⟩ := ho
      unfold DataW.trod at h
      simp only [hu] at h
      split at h
      · rename_i hlen
        simp only [Option.map_eq_some_iff] at h
        obtain ⟨xs, hxs, _⟩ := h
        obtain ⟨hl1, hl2⟩ := mapM_range hxs
        rw [hce] at hl2
        have key : ∀ k, k ≤ m → ∃ parts : List (List PV), RL w (fun b => b < w.heap.size) (fun _ => none) parts.flatten (cs.take (k * e.n)) ∧ parts.length = k ∧ (∀ p ∈ parts, e.fit p) ∧ ∀ v ∈ cs.take (k * e.n), v.oneCell' = true := by
          intro k
          induction k with
          | zero => intro _; exact ⟨[], by simp; exact RL.nil, rfl, by simp, by simp⟩
          | succ k ih =>
            intro hk
            obtain ⟨parts, g1, g2, g3, g4⟩ := ih (by omega)
            have hk2 := hl2 k (by omega)
            rw [List.getElem?_eq_getElem (by omega)] at hk2
            obtain ⟨ps, f1, f2, f3⟩ := trod_fit fuel e te _ _ ho1 hk2
            have hsplit : cs.take ((k + 1) * e.n) = cs.take (k * e.n) ++ (cs.drop (k * e.n)).take e.n := by rw [Nat.add_mul, Nat.one_mul, List.take_add]
            rw [hsplit]
            refine ⟨parts ++ [ps], by simpa using g1.append f1, by simp [g2], fun p hp => ?_, fun v hv => ?_⟩
            · rcases List.mem_append.1 hp with hp | hp
              · exact g3 p hp
              · simp at hp; subst hp; exact f2
            · rcases List.mem_append.1 hv with hv | hv
              · exact g4 v hv
              · exact f3 v hv
        obtain ⟨parts, g1, g2, g3, g4⟩ := key m (Nat.le_refl _)
        rw [List.take_of_length_le (by omega)] at g1 g4
        exact ⟨parts.flatten, g1, ⟨parts, rfl, g2, g3⟩, g4⟩
      · cases h
    · cases ho

/-- An argument of a shape. -/
def Sh.fitV : Sh → PV → Prop
  | .st fs, p => ∃ cs, p = .agg cs ∧ fitL fs cs
  | .arr n e, p => ∃ cs, p = .agg cs ∧ (Sh.arr n e).fit cs
  | s, p => s.fit [p]

theorem arg_fit {s : Sh} {t : TypeId} {v : Value} {d : DataW H} {p : List MemPlace} {r : Reach} {b : Nat} (ho : s.of P t = true) (hval : Value.okWide P w r b t v) (h : DataW.Trod enc P w base spare held t v d p) :
    ∃ pv, R1 w (fun b => b < w.heap.size) (fun _ => none) pv v ∧ s.fitV pv := by
  obtain ⟨fuel, hf⟩ := h
  obtain ⟨ps, h1, h2, _⟩ := trod_fit fuel s t _ _ ho hf
  have one : (∀ cs, v ≠ .agg cs) → (∀ pv, s.fit [pv] → s.fitV pv) → s.n = 1 → ∃ pv, R1 w (fun b => b < w.heap.size) (fun _ => none) pv v ∧ s.fitV pv := by
    intro hv hfv hn
    have hc : v.cells.toList = [v] := by
      cases v <;> first | rfl | exact absurd rfl (hv _)
    rw [hc] at h1
    have hl := fit_len s ps h2
    match ps, hl with
    | [pv], _ => exact ⟨pv, h1.uncons.1, hfv pv h2⟩
    | [], hl => rw [hn] at hl; cases hl
    | _ :: _ :: _, hl => rw [hn] at hl; simp at hl
  cases s with
  | int k =>
    simp only [Sh.of] at ho
    split at ho
    · rename_i k' hu
      refine one (fun cs hv => ?_) (fun pv h => h) rfl
      subst hv
      simp [Value.okWide, Cell.okWide, Cell.ok, hu] at hval
    · cases ho
  | bool =>
    simp only [Sh.of] at ho
    split at ho
    · rename_i hu
      refine one (fun cs hv => ?_) (fun pv h => h) rfl
      subst hv
      simp [Value.okWide, Cell.okWide, Cell.ok, hu] at hval
    · cases ho
  | str =>
    simp only [Sh.of] at ho
    split at ho
    · rename_i hu
      refine one (fun cs hv => ?_) (fun pv h => h) rfl
      subst hv
      simp [Value.okWide, Cell.okWide, Cell.ok, hu] at hval
    · cases ho
  | sl e =>
    simp only [Sh.of] at ho
    split at ho
    · rename_i te hu
      refine one (fun cs hv => ?_) (fun pv h => h) rfl
      subst hv
      simp [Value.okWide, Cell.okWide, Cell.ok, hu] at hval
    · cases ho
  | st fs =>
    simp only [Sh.of] at ho
    split at ho
    · rename_i fds hu
      simp only [Value.okWide, hu] at hval
      obtain ⟨cs, rfl, _⟩ := hval
      refine ⟨.agg ps, ?_, ps, rfl, h2⟩
      have := R1.mkAgg h1
      rwa [show (Value.agg cs).cells = cs from rfl, Array.toArray_toList] at this
    · cases ho
  | arr n e =>
    simp only [Sh.of] at ho
    split at ho
    · rename_i m te hu
      simp only [Value.okWide, hu] at hval
      obtain ⟨cs, rfl, _⟩ := hval
      refine ⟨.agg ps, ?_, ps, rfl, h2⟩
      have := R1.mkAgg h1
      rwa [show (Value.agg cs).cells = cs from rfl, Array.toArray_toList] at this
    · cases ho

def fitVs : List Sh → List PV → Prop
  | [], ps => ps = []
  | s :: r, ps => ∃ p q, ps = p :: q ∧ s.fitV p ∧ fitVs r q

def ofAll (P : Program) : List Sh → List TypeId → Bool
  | [], [] => true
  | s :: r, t :: ts => s.of P t && ofAll P r ts
  | _, _ => false

theorem args_fit {r : Reach} {b : Nat} : ∀ (shs : List Sh) (ts : List TypeId) (vs : List Value) (ds : List (DataW H)) (pl : List MemPlace), ofAll P shs ts = true → (∀ (j : Nat) t v, ts[j]? = some t → vs[j]? = some v → Value.okWide P w r b t v) → DataW.TrodAll enc P w base spare held ts vs ds pl →
    ∃ ps, RL w (fun b => b < w.heap.size) (fun _ => none) ps vs ∧ fitVs shs ps ∧ ds.length = shs.length
  | [], [], [], [], pl, _, _, _ => ⟨[], RL.nil, rfl, rfl⟩
  | s :: shs, t :: ts, v :: vs, d :: ds, pl, ho, hv, h => by
    simp only [ofAll, Bool.and_eq_true] at ho
    obtain ⟨p, q, h1, h2, _⟩ := h
    obtain ⟨pv, g1, g2⟩ := arg_fit ho.1 (hv 0 t v rfl rfl) h1
    obtain ⟨ps, g3, g4, g5⟩ := args_fit shs ts vs ds q ho.2 (fun j t' v' ht hv' => hv (j + 1) t' v' (by simpa using ht) (by simpa using hv')) h2
    exact ⟨pv :: ps, RL.cons g1 g3, ⟨pv, ps, rfl, g2, g4⟩, by simp [g5]⟩
  | [], [], _ :: _, _, _, _, _, h => by cases h
  | [], [], [], _ :: _, _, _, _, h => by cases h
  | [], _ :: _, _, _, _, h, _, _ => by cases h
  | _ :: _, [], _, _, _, h, _, _ => by cases h
  | _ :: _, _ :: _, [], _, _, _, _, h => by cases h
  | _ :: _, _ :: _, _ :: _, [], _, _, _, h => by cases h

/-- FROM A LAW's CONTRACT TO THE ROW, whatever the shapes. -/
theorem closes_sh {fn : Func} {s : ChangeSpec} {f : Nat} {W : World} {b : Nat} {r : Reach} {args : Array Value} {ds gs : List (DataW H)} {before : List MemPlace} {t : TypeId} (shs : List Sh) (hl : laidOutB P = true)
    (hval : ∀ (j : Nat) t v, fn.params[j]? = some t → args[j]? = some v → Value.okWide P W r b t v)
    (hW : DataW.Whole enc P fn.params.toList s.vars false W args.toList ds gs before) (hts : (fn.params.toList.all fun t => P.readableRec t && decide (t < P.types.size)) = true) (hvars : s.vars = []) (hres : fn.resultTypes = #[t])
    (ht : P.underlying t = some .bool) (hs : ds.length = shs.length → gs = [] → s.fn H (ds ++ gs) = { results := [.lit (.bool true)], args := ds }) (hsh : ofAll P shs fn.params.toList = true) (hp : ∀ ps, fitVs shs ps → PCall P f ps (.bool true)) (hg : GlobOk W := by trivial) :
    Calls P f args W fun e W' => ∃ v, e = .returned v ∧ s.post enc P fn false true false false W args v W' := by
  have hW' := hW
  obtain ⟨p, q, hA, hV, hpq, hfz, hnd⟩ := hW
  obtain ⟨ps, h1, h2, h3⟩ := args_fit shs fn.params.toList args.toList ds p hsh (fun j t v h1 h2 => hval j t v (by simpa using h1) (by simpa using h2)) hA
  exact closes hl hW' hts hvars hres ht (hs h3) (fun _ h => h) h1 (hp ps h2) hg

end
end Go.Proofs.YtdgpiobmncohjaaGreat.Aw
